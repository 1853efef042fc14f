/-
  CONTRACTS: Code of taciturnhand: a method's code of raw statements. Conditions: its numbers are numbers of 64 bits; the kinds are 1 to 4.
-/
import Derived.Test.YteebapopeaafhaaGreatDoorHCd
import Derived.StillTailTactics
import Derived.Deep.RegionHeld3
import Derived.Test.YteebapopeaafhaaGreatDoorHStmt4
namespace Go.Tcn
open Go.RowKit
set_option linter.unusedVariables false
set_option linter.unusedSimpArgs false
theorem box_set' {w : World} {g : Nat} {cs : Array Value} {T : TypeId} (h : w.heap[g]? = some (.cells cs T (0, 0))) (j : Nat) (u : Value) : (w.setCell ⟨g, j, none⟩ u).heap[g]? = some (.cells (cs.setIfInBounds j u) T (0, 0)) := by
  have : (w.setCell ⟨g, j, none⟩ u).heap = w.heap.modify g fun | .cells c elem frozen => .cells (c.setIfInBounds j u) elem frozen | o => o := rfl
  rw [this, Array.getElem?_modify, if_pos rfl, h]
  rfl
end Go.Tcn
namespace Go.Proofs.YteebapopeaafhaaGreatDoor
open Go.RowKit Go.Tcn
set_option linter.unusedVariables false
set_option linter.unusedSimpArgs false

set_option maxRecDepth 100000 in
set_option maxHeartbeats 16000000 in
theorem hand_Code (w : World) (hG : Bins w 2) (xv : Value) (l : List Rw) (hl : Raws w xv l) (hll : l.length ≤ 5000000000000)
    (mt : Mth) (vp vl vcd : Value) (hp : RInts w [] vp mt.params) (hlc : RInts w [] vl mt.locals) (hpl : mt.params.length ≤ 4) (hlcl : mt.locals.length ≤ 6) (hpk : ∀ k ∈ mt.params, 1 ≤ k ∧ k ≤ 4) (hlk : ∀ k ∈ mt.locals, 1 ≤ k ∧ k ≤ 4) (hrs : 0 ≤ mt.result ∧ mt.result ≤ 4)
    (vms : Value) (ms : List Mth) (hms : RMths w [] vms ms) (hm1 : 1 ≤ ms.length ∧ ms.length ≤ 8) (hmp : ∀ m ∈ ms, m.params.length ≤ 10 ∧ ∀ k ∈ m.params, 1 ≤ k ∧ k ≤ 4)
    (vim : Value) (im : List Imp) (him : RImps w [] vim im) (hi1 : im.length ≤ 4) (hip : ∀ m ∈ im, m.params.length ≤ 10 ∧ ∀ k ∈ m.params, 1 ≤ k ∧ k ≤ 4) :
    Calls Tryz.prog 28 #[xv, .agg #[vp, .int .i64 mt.result, vl, vcd], vms, vim] w fun e w' => ∃ (c : List Ins) (ao : Option Addr) (cap : Nat), e = .returned (.slice ao c.length cap) ∧ w'.ownsRow 0 57 3 (.slice ao c.length cap) c.length (codeCells c) ∧ (∀ g, (Value.slice ao c.length cap).ownBlock = some g → w.heap.size ≤ g) ∧ (∀ x ∈ c, rightI x.op x.a x.b = true) ∧ 1 ≤ c.length ∧ c.length ≤ 120 ∧ Tch [] w w' := by
  obtain ⟨i0, hi, hz0, hz1, hz2⟩ := info_parts (@info_int ⟨true, []⟩)
  obtain ⟨aop, capp, rfl⟩ := hp.form
  obtain ⟨aol, capl, rfl⟩ := hlc.form
  have tA : Tch [] w (w.alloc (.cells #[.slice aop mt.params.length capp, .int .i64 mt.result, .slice aol mt.locals.length capl, vcd] 55)) := (Tch.refl [] w).alloc _
  have hX := Bq.new w (.slice aop mt.params.length capp) (.int .i64 mt.result) (.slice aol mt.locals.length capl) vcd 55
  obtain ⟨W, hW⟩ : ∃ W, W = w.alloc (.cells #[.slice aop mt.params.length capp, .int .i64 mt.result, .slice aol mt.locals.length capl, vcd] 55) := ⟨_, rfl⟩
  rw [← hW] at tA hX
  have hsz : w.heap.size < W.heap.size := cell_lt hX.c0
  have hp1 := hp.tch tA (by simp)
  have hl1 := hlc.tch tA (by simp)
  go_enter Tryz.func28, Tryz.ntmps28
  go_upto_region 1 with fail
  rw [← hW]
  clear hW hp hlc
  obtain ⟨x0, x1, x2, x3⟩ := hX
  have ta : Tch [] W (W.alloc (.cells #[] 3)).drew := ((Tch.refl [] W).alloc _).drew
  have hown0 : (W.alloc (.cells #[] 3)).drew.ownsRow 0 3 1 (.slice (some ⟨W.heap.size, 0, none⟩) 0 0) 0 [] := World.ownsRow_lit W #[] 0 (Nat.zero_le _) (by decide) rfl
  have hpa := hp1.tch ta (by simp)
  have hla := hl1.tch ta (by simp)
  have hbn1 : 0 + mt.params.length ≤ 9223372036854775807 ∧ (0 + mt.params.length) * 8 ≤ 140737488355328 := by omega
  have hbn2 : mt.params.length + mt.locals.length ≤ 9223372036854775807 ∧ (mt.params.length + mt.locals.length) * 8 ≤ 140737488355328 := by omega
  go_cut [9] (fun v wz => ∃ P : Nat, v = .pointer (some ⟨P, 0, none⟩) ∧ Mn 99 3 wz P (.slice none 0 0) [] (mt.params ++ mt.locals) ∧ W.heap.size ≤ P ∧ Tch [] W wz)
  case first =>
   go_region_law (first
    | (refine step_append_any _ rfl (.tmp 15) (.tmp 17) 23 rfl 3 i0 (.int .i64 0) 1 8 Tryz.underlying23 hi hz0 hz1 hz2 rfl (by decide) (.slice (some ⟨W.heap.size, 0, none⟩) 0 0) 0 [] rfl hown0 [] (.slice aop mt.params.length capp) mt.params.length (ints mt.params) rfl hpa (by simp) (ints_one _) hbn1 ?_; intro ao1 cap1 w1 hown1 hgrow1 hat1; simp only [Nat.zero_add, List.nil_append] at hown1 hat1 ⊢; have t1 : Tch [] W w1 := ta.grown hgrow1 (fun g h => .inr (by simp [Value.ownBlock] at h; omega)); have hl2 := hl1.tch t1 (by simp); have x2a := (show w1.cell? ⟨w.heap.size, 2, none⟩ = some (.slice aol mt.locals.length capl) by rw [t1.cell (cell_lt x2) (by simp)]; exact x2))
    | (refine step_append_any _ rfl (.tmp 18) (.tmp 20) 23 rfl 3 i0 (.int .i64 0) 1 8 Tryz.underlying23 hi hz0 hz1 hz2 rfl (by decide) (.slice ao1 mt.params.length cap1) mt.params.length (ints mt.params) rfl hown1 [] (.slice aol mt.locals.length capl) mt.locals.length (ints mt.locals) rfl hl2 (by simp) (ints_one _) hbn2 ?_; intro ao2 cap2 w2 hown2 hgrow2 hat2))
   all_goals
    have t2 : Tch [] W w2 := t1.grown hgrow2 (fun g h => .inr (by
      rcases hat1 with e | e
      · rw [e] at h; simp [Value.ownBlock] at h; omega
      · rw [e] at h; simp at h; omega))
    have hkl : (mt.params ++ mt.locals).length = mt.params.length + mt.locals.length := by simp
    rw [← ints_append, ← hkl] at hown2
    have hg2 : ∀ g, (Value.slice ao2 (mt.params.length + mt.locals.length) cap2).ownBlock = some g → W.heap.size ≤ g := fun g h => by
      rcases hat2 with e | e
      · rw [e] at h
        rcases hat1 with e | e
        · rw [e] at h; simp [Value.ownBlock] at h; omega
        · rw [e] at h; simp at h; omega
      · rw [e] at h; simp at h; have := t1.size; omega
    rw [← hkl] at hg2
    obtain ⟨P, hP⟩ : ∃ P, P = w2.heap.size := ⟨_, rfl⟩
    have hPW : W.heap.size ≤ P := hP ▸ t2.size
    have hlw := World.ownsRow.lt hown2
    have hn0 : Mn 99 3 (w2.alloc (Obj.cells #[Value.slice none 0 0, Value.slice none 0 0, Value.int IntKind.i64 0, Value.slice ao2 (mt.params.length + mt.locals.length) cap2, Value.int IntKind.i64 0] 99)) P (.slice none 0 0) [] (mt.params ++ mt.locals) := by
      rw [← hkl]
      refine ⟨_, by rw [hP]; exact heap_alloc_new w2 _, World.ownsRow_nil _ _ _ _, by simp [Value.ownBlock], ?_⟩
      exact src_of_owns (hown2.alloc _) _ (fun g h hx => by have := (hlw g h).2; simp [Value.ownBlock] at hx; omega)
    have tV : Tch [] W (w2.alloc (Obj.cells #[Value.slice none 0 0, Value.slice none 0 0, Value.int IntKind.i64 0, Value.slice ao2 (mt.params.length + mt.locals.length) cap2, Value.int IntKind.i64 0] 99)) := t2.alloc _

    go_wp2_with fail
    go_meet
    exact ⟨P, by rw [hP], hn0, hPW, tV⟩
  case rest =>
  obtain ⟨P, rfl, hn0, hPW, tV⟩ := hcut
  have hkl : (mt.params ++ mt.locals).length = mt.params.length + mt.locals.length := by simp
  have hkd : ∀ k ∈ mt.params ++ mt.locals, 1 ≤ k ∧ k ≤ 4 := fun k hk => by
    rcases List.mem_append.1 hk with h | h
    · exact hpk k h
    · exact hlk k h
  have hk10 : (mt.params ++ mt.locals).length ≤ 10 := by omega
  clear hpa hla hown0 ta hbn1 hbn2 hkl hp1 hl1
  generalize mt.params ++ mt.locals = kd at *
  obtain ⟨aox, capx, rfl, hlm, hel⟩ := id hl.ex
  go_wp2_with fail
  go_loopw [10] (fun i wz => ∃ (k : Nat) (vn : Value), k ≤ l.length ∧ i = .int .i64 k ∧ Mn 99 3 wz P vn (numsOf (l.take k)) kd ∧ (∀ g, vn.ownBlock = some g → W.heap.size ≤ g) ∧ Tch [] W wz) (fun i _ => l.length - (intOf i).toNat)
  case atStart => exact ⟨0, .slice none 0 0, by omega, rfl, hn0, by simp [Value.ownBlock], tV⟩
  case round =>
    obtain ⟨k, vn, hk1, rfl, hM, hgn, ht⟩ := hrel
    clear hn0 tV
    by_cases hk : k < l.length
    · obtain ⟨ad, rfl, hadlt, hcell⟩ := hel k l[k] (by simp [hk])
      have hc : ∀ (j : Nat) u, (rawCells l[k]).toList[j]? = some u → wr.cell? ((ad.add (k * 4)).add j) = some u := fun j u hj => by
        rw [(tA.then ht).cell (by rw [Addr_add_block, Addr_add_block]; exact hadlt) (by simp)]; exact hcell j u hj
      have q1 : wr.cell? ⟨(ad.add (k * 4)).block, (ad.add (k * 4)).off + 1, none⟩ = some (.int .i64 l[k].2.1) := hc 1 _ rfl
      have q2 : wr.cell? ⟨(ad.add (k * 4)).block, (ad.add (k * 4)).off + 2, none⟩ = some (.int .i64 l[k].2.2.1) := hc 2 _ rfl
      have q3 : wr.cell? ⟨(ad.add (k * 4)).block, (ad.add (k * 4)).off + 3, none⟩ = some (.int .i64 l[k].2.2.2) := hc 3 _ rfl
      have hnt := numsOf_take l k hk
      have hnl := numsOf_len (l.take k)
      rw [List.length_take, Nat.min_eq_left hk1] at hnl
      clear hc hcell hel
      generalize l[k].2.1 = rb at *
      generalize l[k].2.2.1 = rc at *
      generalize l[k].2.2.2 = rd at *
      have HN := Lib.hid hnt; clear hnt
      generalize hnx : numsOf (l.take k) = nn at *
      have HX := Lib.hid hnx; clear hnx
      obtain ⟨vk, hv0, ho, hne, hvk⟩ := hM.ex
      have hplt := heap_lt hv0
      have hne' : some P ≠ vn.ownBlock := fun h => hne h.symm
      have c1' : (wr.alloc (.cells #[.int .i64 rb, .int .i64 rc, .int .i64 rd] 3)).drew.cell? ⟨P, 1, none⟩ = some vn := (World.cell?_alloc_past _ _ _ hplt).trans (by simp [World.cell?, hv0])
      have f1' : (wr.alloc (.cells #[.int .i64 rb, .int .i64 rc, .int .i64 rd] 3)).drew.frozen? ⟨P, 1, none⟩ = false := (World.frozen?_alloc_past _ _ _ hplt).trans (by simp [World.frozen?, hv0])
      have c1d : wr.drew.cell? ⟨P, 1, none⟩ = some vn := show wr.cell? ⟨P, 1, none⟩ = some vn by simp [World.cell?, hv0]
      have q1d : wr.drew.cell? ⟨(ad.add (k * 4)).block, (ad.add (k * 4)).off + 1, none⟩ = some (.int .i64 rb) := q1
      have q2d : wr.drew.cell? ⟨(ad.add (k * 4)).block, (ad.add (k * 4)).off + 2, none⟩ = some (.int .i64 rc) := q2
      have q3d : wr.drew.cell? ⟨(ad.add (k * 4)).block, (ad.add (k * 4)).off + 3, none⟩ = some (.int .i64 rd) := q3
      have hp1 : P < (wr.alloc (.cells #[.int .i64 rb, .int .i64 rc, .int .i64 rd] 3)).drew.heap.size := by simp; omega
      have hown0 : (wr.alloc (.cells #[.int .i64 rb, .int .i64 rc, .int .i64 rd] 3)).drew.ownsRow 0 3 1 vn nn.length (ints nn) := ho.alloc _
      have hsrc : Src (wr.alloc (.cells #[.int .i64 rb, .int .i64 rc, .int .i64 rd] 3)).drew [] (.slice (some ⟨wr.heap.size, 0, none⟩) 3 3) 3 [.int .i64 rb, .int .i64 rc, .int .i64 rd] := src_new wr _ [] #[Value.int .i64 rb, Value.int .i64 rc, Value.int .i64 rd] 3 3 3 ((Tch.refl [] _).drew) (by simp)
      have h1c : ∀ u ∈ [Value.int .i64 rb, Value.int .i64 rc, Value.int .i64 rd], u.oneCell' = true := by intro u hu; simp at hu; rcases hu with rfl | rfl | rfl <;> rfl
      have hbnd : nn.length + 3 ≤ 9223372036854775807 ∧ (nn.length + 3) * 8 ≤ 140737488355328 := by omega
      have HK := Lib.hid hk
      have hfin : ∀ ao cap w1, w1.ownsRow 0 3 1 (.slice ao (nn.length + 3) cap) (nn.length + 3) (ints nn ++ [.int .i64 rb, .int .i64 rc, .int .i64 rd]) → (wr.alloc (.cells #[.int .i64 rb, .int .i64 rc, .int .i64 rd] 3)).drew.grownBy w1 vn.ownBlock → ((Value.slice ao (nn.length + 3) cap).ownBlock = vn.ownBlock ∨ (Value.slice ao (nn.length + 3) cap).ownBlock = some (wr.alloc (.cells #[.int .i64 rb, .int .i64 rc, .int .i64 rd] 3)).drew.heap.size) →
          Mn 99 3 (w1.setCell ⟨P, 1, none⟩ (.slice ao (nn.length + 3) cap)) P (.slice ao (nn.length + 3) cap) (numsOf (l.take (k + 1))) kd ∧ (∀ g, (Value.slice ao (nn.length + 3) cap).ownBlock = some g → W.heap.size ≤ g) ∧ Tch [] W (w1.setCell ⟨P, 1, none⟩ (.slice ao (nn.length + 3) cap)) := fun ao cap w1 hown hgrow hat => by
        have z9 : (wr.alloc (.cells #[.int .i64 rb, .int .i64 rc, .int .i64 rd] 3)).drew.heap.size = wr.heap.size + 1 := by simp
        have hnew : ∀ g, (Value.slice ao (nn.length + 3) cap).ownBlock = some g → vn.ownBlock = some g ∨ g = wr.heap.size + 1 := fun g hg => by
          rcases hat with e | e
          · exact .inl (e ▸ hg)
          · rw [e, z9] at hg; simp at hg; exact .inr hg.symm
        have hneP : (Value.slice ao (nn.length + 3) cap).ownBlock ≠ some P := fun h => by
          rcases hnew P h with e | e
          · exact hne e
          · omega
        have hb1 : w1.heap[P]? = some (.cells #[.slice none 0 0, vn, .int .i64 (0 : Nat), vk, .int .i64 0] 99 (0, 0)) := by
          rw [hgrow.block P hp1 hne', show (wr.alloc (.cells #[.int .i64 rb, .int .i64 rc, .int .i64 rd] 3)).drew.heap[P]? = (wr.alloc (.cells #[.int .i64 rb, .int .i64 rc, .int .i64 rd] 3)).heap[P]? from rfl, Below.heap_alloc _ _ _ hplt]; exact hv0
        have tP := (Tch.refl [P] w1).setCell (p := ⟨P, 1, none⟩) (.inl (by simp)) (.slice ao (nn.length + 3) cap)
        have tw : Tch vn.ownBlock.toList wr w1 := (((Tch.refl [] wr).alloc (.cells #[.int .i64 rb, .int .i64 rc, .int .i64 rd] 3)).drew.nil).grown hgrow (fun g hg => .inl (by simp [hg]))
        have hvk1 : Src wr ((P :: vn.ownBlock.toList) ++ (Value.slice ao (nn.length + 3) cap).ownBlock.toList) vk kd.length (ints kd) := hvk.mono (fun i hi hlt => by
          rcases List.mem_append.1 hi with h | h
          · exact h
          · rcases hnew i (by simpa using h) with e | e
            · simp [e]
            · omega)
        have hvk2 := (hvk1.tch tw (fun i hi _ => List.mem_append_left _ (List.mem_cons_of_mem _ hi))).tch tP (fun i hi _ => List.mem_append_left _ (by simp at hi; simp [hi]))
        refine ⟨⟨⟨vk, ?_, ?_, hneP, hvk2.mono (fun i hi _ => ?_)⟩⟩, fun g hg => ?_, ?_⟩
        · exact box_set' hb1 1 _
        · rw [HN.out]
          have := ownsRow_tch hown tP (fun g hg hx => by simp at hx; subst hx; exact hneP hg)
          simpa [ints] using this
        · rcases List.mem_cons.1 hi with h | h
          · exact List.mem_append_left _ (h ▸ List.mem_cons_self)
          · exact List.mem_append_right _ h
        · rcases hnew g hg with e | e
          · exact hgn g e
          · have := ht.size; omega
        · exact (((ht.alloc (.cells #[.int .i64 rb, .int .i64 rc, .int .i64 rd] 3)).drew).grown hgrow (fun g hg => .inr (hgn g hg))).setCell (.inr hPW) _
      clear hnl
      have hadP : (ad.add (k * 4)).block ≠ P := by
        rw [Addr_add_block]; omega
      have hadr : (ad.add (k * 4)).block < wr.heap.size := cell_lt (p := ⟨(ad.add (k * 4)).block, (ad.add (k * 4)).off + 1, none⟩) q1
      have hS0 : (fun w' => w'.cell? ⟨(ad.add (k * 4)).block, (ad.add (k * 4)).off + 1, none⟩ = some (.int .i64 rb) ∧ w'.cell? ⟨(ad.add (k * 4)).block, (ad.add (k * 4)).off + 2, none⟩ = some (.int .i64 rc) ∧ w'.cell? ⟨(ad.add (k * 4)).block, (ad.add (k * 4)).off + 3, none⟩ = some (.int .i64 rd)) wr.drew := ⟨q1, q2, q3⟩
      have hSx : (fun w' => w'.cell? ⟨(ad.add (k * 4)).block, (ad.add (k * 4)).off + 1, none⟩ = some (.int .i64 rb) ∧ w'.cell? ⟨(ad.add (k * 4)).block, (ad.add (k * 4)).off + 2, none⟩ = some (.int .i64 rc) ∧ w'.cell? ⟨(ad.add (k * 4)).block, (ad.add (k * 4)).off + 3, none⟩ = some (.int .i64 rd)) (wr.drew.alloc (.cells #[.int .i64 rb, .int .i64 rc, .int .i64 rd] 3)) := ⟨(World.cell?_alloc_past _ _ _ hadr).trans q1, (World.cell?_alloc_past _ _ _ hadr).trans q2, (World.cell?_alloc_past _ _ _ hadr).trans q3⟩
      have hadv : ∀ (w1 : World), (wr.alloc (.cells #[.int .i64 rb, .int .i64 rc, .int .i64 rd] 3)).drew.grownBy w1 vn.ownBlock → some (ad.add (k * 4)).block ≠ vn.ownBlock := fun w1 hg h => by
        have h1 := hgn _ h.symm
        rw [Addr_add_block] at h1
        omega
      have hadr' : (ad.add (k * 4)).block < (wr.alloc (.cells #[.int .i64 rb, .int .i64 rc, .int .i64 rd] 3)).drew.heap.size := by simp; omega
      have hS1 : ∀ (ao : Option Addr) (cap : Nat) (w1 : World), (wr.alloc (.cells #[.int .i64 rb, .int .i64 rc, .int .i64 rd] 3)).drew.grownBy w1 vn.ownBlock → (fun w' => w'.cell? ⟨(ad.add (k * 4)).block, (ad.add (k * 4)).off + 1, none⟩ = some (.int .i64 rb) ∧ w'.cell? ⟨(ad.add (k * 4)).block, (ad.add (k * 4)).off + 2, none⟩ = some (.int .i64 rc) ∧ w'.cell? ⟨(ad.add (k * 4)).block, (ad.add (k * 4)).off + 3, none⟩ = some (.int .i64 rd)) w1 := fun ao cap w1 hg => ⟨(hg.cell_far ⟨(ad.add (k * 4)).block, (ad.add (k * 4)).off + 1, none⟩ hadr' (hadv w1 hg)).trans ((World.cell?_alloc_past _ _ _ hadr).trans q1), (hg.cell_far ⟨(ad.add (k * 4)).block, (ad.add (k * 4)).off + 2, none⟩ hadr' (hadv w1 hg)).trans ((World.cell?_alloc_past _ _ _ hadr).trans q2), (hg.cell_far ⟨(ad.add (k * 4)).block, (ad.add (k * 4)).off + 3, none⟩ hadr' (hadv w1 hg)).trans ((World.cell?_alloc_past _ _ _ hadr).trans q3)⟩
      have hS2 : ∀ (ao : Option Addr) (cap : Nat) (w1 : World), (wr.alloc (.cells #[.int .i64 rb, .int .i64 rc, .int .i64 rd] 3)).drew.grownBy w1 vn.ownBlock → (fun w' => w'.cell? ⟨(ad.add (k * 4)).block, (ad.add (k * 4)).off + 1, none⟩ = some (.int .i64 rb) ∧ w'.cell? ⟨(ad.add (k * 4)).block, (ad.add (k * 4)).off + 2, none⟩ = some (.int .i64 rc) ∧ w'.cell? ⟨(ad.add (k * 4)).block, (ad.add (k * 4)).off + 3, none⟩ = some (.int .i64 rd)) (w1.setCell ⟨P, 1, none⟩ (.slice ao (nn.length + 3) cap)) := fun ao cap w1 hg => by
        have h1 := hS1 ao cap w1 hg
        have t1 := (Tch.refl [P] w1).setCell (p := ⟨P, 1, none⟩) (.inl (by simp)) (.slice ao (nn.length + 3) cap)
        exact ⟨(t1.cell (cell_lt h1.1) (by simpa using hadP)).trans h1.1, (t1.cell (cell_lt h1.2.1) (by simpa using hadP)).trans h1.2.1, (t1.cell (cell_lt h1.2.2) (by simpa using hadP)).trans h1.2.2⟩
      clear q1 q2 q3 q1d q2d q3d hl hms him
      go_upto_region 5 with fail
      refine wp_region_held_drew (S := fun w' => w'.cell? ⟨(ad.add (k * 4)).block, (ad.add (k * 4)).off + 1, none⟩ = some (.int .i64 rb) ∧ w'.cell? ⟨(ad.add (k * 4)).block, (ad.add (k * 4)).off + 2, none⟩ = some (.int .i64 rc) ∧ w'.cell? ⟨(ad.add (k * 4)).block, (ad.add (k * 4)).off + 3, none⟩ = some (.int .i64 rd)) (by kernel_rfl) hS0 (fun hHeld => ?_)
      refine wpAnyH_take (i := 0) (v := ?_) rfl (by kernel_rfl) (by kernel_rfl) (by kernel_rfl) (fun _ _ _ h => h) (Or.inl ⟨by rfl, ?_⟩) (by assumption) ?_
      rotate_left
      · (intro w hSw; (try dsimp only at hSw); go_simp; try with_reducible rfl)
      try simp only [Act.put, List.setIfInBounds_toArray, List.set_cons_zero, List.set_cons_succ]
      refine wpAnyH_take (i := 1) (v := ?_) rfl (by kernel_rfl) (by kernel_rfl) (by kernel_rfl) (fun _ _ _ h => h) (Or.inl ⟨by rfl, ?_⟩) (by assumption) ?_
      rotate_left
      · (intro w hSw; (try dsimp only at hSw); go_simp; try with_reducible rfl)
      try simp only [Act.put, List.setIfInBounds_toArray, List.set_cons_zero, List.set_cons_succ]
      refine wpAnyH_take (i := 2) (v := ?_) rfl (by kernel_rfl) (by kernel_rfl) (by kernel_rfl) (fun _ _ _ h => h) (Or.inl ⟨by rfl, ?_⟩) (by assumption) ?_
      rotate_left
      · (intro w hSw; (try dsimp only at hSw); go_simp; try with_reducible rfl)
      try simp only [Act.put, List.setIfInBounds_toArray, List.set_cons_zero, List.set_cons_succ]
      refine wpAnyH_take (i := 3) (v := ?_) rfl (by kernel_rfl) (by kernel_rfl) (by kernel_rfl) (fun _ _ _ h => h) (Or.inl ⟨by rfl, ?_⟩) (by assumption) ?_
      rotate_left
      · (intro w hSw; (try dsimp only at hSw); go_simp; try with_reducible rfl)
      try simp only [Act.put, List.setIfInBounds_toArray, List.set_cons_zero, List.set_cons_succ]
      refine wpAnyH_take (i := 5) (v := ?_) rfl (by kernel_rfl) (by kernel_rfl) (by kernel_rfl) (fun _ _ _ h => h) (Or.inl ⟨by rfl, ?_⟩) (by assumption) ?_
      rotate_left
      · (intro w hSw; (try dsimp only at hSw); go_simp; try with_reducible rfl)
      try simp only [Act.put, List.setIfInBounds_toArray, List.set_cons_zero, List.set_cons_succ]
      refine wpAnyH_take (i := 6) (v := ?_) rfl (by kernel_rfl) (by kernel_rfl) (by kernel_rfl) (fun _ _ _ h => h) (Or.inl ⟨by rfl, ?_⟩) (by assumption) ?_
      rotate_left
      · (intro w hSw; (try dsimp only at hSw); go_simp; try with_reducible rfl)
      try simp only [Act.put, List.setIfInBounds_toArray, List.set_cons_zero, List.set_cons_succ]
      refine wpAnyH_take (i := 7) (v := ?_) rfl (by kernel_rfl) (by kernel_rfl) (by kernel_rfl) (fun _ _ _ h => h) (Or.inl ⟨by rfl, ?_⟩) (by assumption) ?_
      rotate_left
      · (intro w hSw; (try dsimp only at hSw); go_simp; try with_reducible rfl)
      try simp only [Act.put, List.setIfInBounds_toArray, List.set_cons_zero, List.set_cons_succ]
      refine wpAnyH_take (i := 8) (v := ?_) rfl (by kernel_rfl) (by kernel_rfl) (by kernel_rfl) (fun _ _ _ h => h) (Or.inl ⟨by rfl, ?_⟩) (by assumption) ?_
      rotate_left
      · (intro w hSw; (try dsimp only at hSw); go_simp; try with_reducible rfl)
      try simp only [Act.put, List.setIfInBounds_toArray, List.set_cons_zero, List.set_cons_succ]
      refine wpAnyH_take (i := 9) (v := ?_) rfl (by kernel_rfl) (by kernel_rfl) (by kernel_rfl) (fun _ _ _ h => h) (Or.inl ⟨by rfl, ?_⟩) (by assumption) ?_
      rotate_left
      · (intro w hSw; (try dsimp only at hSw); go_simp; try with_reducible rfl)
      try simp only [Act.put, List.setIfInBounds_toArray, List.set_cons_zero, List.set_cons_succ]
      refine wpAnyH_take (i := 10) (v := ?_) rfl (by kernel_rfl) (by kernel_rfl) (by kernel_rfl) (fun _ _ _ h => h) (Or.inl ⟨by rfl, ?_⟩) (by assumption) ?_
      rotate_left
      · (intro w hSw; (try dsimp only at hSw); go_simp; try with_reducible rfl)
      try simp only [Act.put, List.setIfInBounds_toArray, List.set_cons_zero, List.set_cons_succ]
      refine wpAnyH_take (i := 11) (v := ?_) rfl (by kernel_rfl) (by kernel_rfl) (by kernel_rfl) (fun _ _ _ h => h) (Or.inl ⟨by rfl, ?_⟩) (by assumption) ?_
      rotate_left
      · (intro w hSw; (try dsimp only at hSw); go_simp; try with_reducible rfl)
      try simp only [Act.put, List.setIfInBounds_toArray, List.set_cons_zero, List.set_cons_succ]
      refine wpAnyH_take (i := 12) (v := ?_) rfl (by kernel_rfl) (by kernel_rfl) (by kernel_rfl) (fun _ _ _ h => h) (Or.inl ⟨by rfl, ?_⟩) (by assumption) ?_
      rotate_left
      · (intro w hSw; (try dsimp only at hSw); go_simp; try with_reducible rfl)
      try simp only [Act.put, List.setIfInBounds_toArray, List.set_cons_zero, List.set_cons_succ]
      refine wpAnyH_take (i := 13) (v := ?_) rfl (by kernel_rfl) (by kernel_rfl) (by kernel_rfl) (fun _ _ _ h => h) (Or.inl ⟨by rfl, ?_⟩) (by assumption) ?_
      rotate_left
      · (intro w hSw; (try dsimp only at hSw); go_simp; try with_reducible rfl)
      try simp only [Act.put, List.setIfInBounds_toArray, List.set_cons_zero, List.set_cons_succ]
      refine wpAnyH_take (i := 14) (v := ?_) rfl (by kernel_rfl) (by kernel_rfl) (by kernel_rfl) (fun _ _ _ h => h) (Or.inl ⟨by rfl, ?_⟩) (by assumption) ?_
      rotate_left
      · (intro w hSw; (try dsimp only at hSw); go_simp; try with_reducible rfl)
      try simp only [Act.put, List.setIfInBounds_toArray, List.set_cons_zero, List.set_cons_succ]
      refine wpAnyH_take (i := 15) (v := ?_) rfl (by kernel_rfl) (by kernel_rfl) (by kernel_rfl) (fun _ _ _ h => h) (Or.inl ⟨by rfl, ?_⟩) (by assumption) ?_
      rotate_left
      · (intro w hSw; (try dsimp only at hSw); go_simp; try with_reducible rfl)
      try simp only [Act.put, List.setIfInBounds_toArray, List.set_cons_zero, List.set_cons_succ]
      refine wpAnyH_take (i := 16) (v := ?_) rfl (by kernel_rfl) (by kernel_rfl) (by kernel_rfl) (fun _ _ _ h => h) (Or.inl ⟨by rfl, ?_⟩) (by assumption) ?_
      rotate_left
      · (intro w hSw; (try dsimp only at hSw); go_simp; try with_reducible rfl)
      try simp only [Act.put, List.setIfInBounds_toArray, List.set_cons_zero, List.set_cons_succ]
      refine wpAnyH_take (i := 17) (v := ?_) rfl (by kernel_rfl) (by kernel_rfl) (by kernel_rfl) (fun _ _ _ h => h) (Or.inl ⟨by rfl, ?_⟩) (by assumption) ?_
      rotate_left
      · (intro w hSw; (try dsimp only at hSw); go_simp; try with_reducible rfl)
      try simp only [Act.put, List.setIfInBounds_toArray, List.set_cons_zero, List.set_cons_succ]
      refine wpAnyH_take (i := 18) (v := ?_) rfl (by kernel_rfl) (by kernel_rfl) (by kernel_rfl) (fun _ _ _ h => h) (Or.inl ⟨by rfl, ?_⟩) (by assumption) ?_
      rotate_left
      · (intro w hSw; (try dsimp only at hSw); go_simp; try with_reducible rfl)
      try simp only [Act.put, List.setIfInBounds_toArray, List.set_cons_zero, List.set_cons_succ]
      refine wpAnyH_take (i := 19) (v := ?_) rfl (by kernel_rfl) (by kernel_rfl) (by kernel_rfl) (fun _ _ _ h => h) (Or.inl ⟨by rfl, ?_⟩) (by assumption) ?_
      rotate_left
      · (intro w hSw; (try dsimp only at hSw); go_simp; try with_reducible rfl)
      try simp only [Act.put, List.setIfInBounds_toArray, List.set_cons_zero, List.set_cons_succ]
      refine wpAnyH_ready (rs := [4, 20]) (by kernel_rfl) (by simp) ?_
      refine AllReadyH.cons rfl (fun K hK => ?_) (AllReadyH.cons rfl (fun K hK => ?_) AllReadyH.nil)
      · go_simp
        refine hK.out _ _ (hS0) (fun hHeld => ?_)
        clear hK K
        try simp only [Act.put, List.setIfInBounds_toArray, List.set_cons_zero, List.set_cons_succ]
        refine wpAnyH_ready (rs := [20]) (by kernel_rfl) (by simp) ?_
        refine AllReadyH.cons rfl (fun K hK => ?_) AllReadyH.nil
        go_simp
        refine hK.out _ _ (hSx) (fun hHeld => ?_)
        clear hK K
        try simp only [Act.put, List.setIfInBounds_toArray, List.set_cons_zero, List.set_cons_succ]
        refine wpAnyH_ready (rs := [21]) (by kernel_rfl) (by simp) ?_
        refine AllReadyH.cons rfl (fun K hK => ?_) AllReadyH.nil
        refine step_append_any _ rfl (.tmp 34) (.tmp 50) 23 rfl 3 i0 (.int .i64 0) 1 8 Tryz.underlying23 hi hz0 hz1 hz2 rfl (by decide) vn nn.length (ints nn) rfl hown0 [] _ 3 [Value.int .i64 rb, Value.int .i64 rc, Value.int .i64 rd] rfl hsrc rfl h1c hbnd ?_
        intro ao cap w1 hown hgrow hat
        have cA := (hgrow.cell_far ⟨P, 1, none⟩ hp1 hne').trans c1'
        have fA := (hgrow.frozen_far ⟨P, 1, none⟩ hp1 hne').trans f1'
        have hSa := hS1 ao cap w1 hgrow
        have hSb := hS2 ao cap w1 hgrow
        refine hK.out _ _ (hSa) (fun hHeld => ?_)
        clear hK K
        try simp only [Act.put, List.setIfInBounds_toArray, List.set_cons_zero, List.set_cons_succ]
        refine wpAnyH_take (i := 22) (v := ?_) rfl (by kernel_rfl) (by kernel_rfl) (by kernel_rfl) (fun _ _ _ h => h) (Or.inl ⟨by rfl, ?_⟩) (by assumption) ?_
        rotate_left
        · (intro w hSw; (try dsimp only at hSw); go_simp; try with_reducible rfl)
        try simp only [Act.put, List.setIfInBounds_toArray, List.set_cons_zero, List.set_cons_succ]
        refine wpAnyH_take (i := 23) (v := ?_) rfl (by kernel_rfl) (by kernel_rfl) (by kernel_rfl) (fun _ _ _ h => h) (Or.inl ⟨by rfl, ?_⟩) (by assumption) ?_
        rotate_left
        · (intro w hSw; (try dsimp only at hSw); go_simp; try with_reducible rfl)
        try simp only [Act.put, List.setIfInBounds_toArray, List.set_cons_zero, List.set_cons_succ]
        refine wpAnyH_ready (rs := [24]) (by kernel_rfl) (by simp) ?_
        refine AllReadyH.cons rfl (fun K hK => ?_) AllReadyH.nil
        go_simp
        refine hK.out _ _ (hSb) (fun hHeld => ?_)
        clear hK K
        try simp only [Act.put, List.setIfInBounds_toArray, List.set_cons_zero, List.set_cons_succ]
        refine wpAnyH_done (by kernel_rfl) ?_ _
        have hF := Lib.hid (hfin ao cap w1 hown hgrow hat)
        clear hfin hown hgrow hat hS1 hS2 hSa hSb
        go_wp2_with fail
        go_roundw
        case rel => exact ⟨k + 1, _, by have := HK.out; omega, by go_num, hF.out.1, hF.out.2.1, hF.out.2.2⟩
        case measure => have := HK.out; simp [intOf]; omega
      · go_simp
        refine hK.out _ _ (hSx) (fun hHeld => ?_)
        clear hK K
        try simp only [Act.put, List.setIfInBounds_toArray, List.set_cons_zero, List.set_cons_succ]
        refine wpAnyH_ready (rs := [4]) (by kernel_rfl) (by simp) ?_
        refine AllReadyH.cons rfl (fun K hK => ?_) AllReadyH.nil
        go_simp
        refine hK.out _ _ (hSx) (fun hHeld => ?_)
        clear hK K
        try simp only [Act.put, List.setIfInBounds_toArray, List.set_cons_zero, List.set_cons_succ]
        refine wpAnyH_ready (rs := [21]) (by kernel_rfl) (by simp) ?_
        refine AllReadyH.cons rfl (fun K hK => ?_) AllReadyH.nil
        refine step_append_any _ rfl (.tmp 34) (.tmp 50) 23 rfl 3 i0 (.int .i64 0) 1 8 Tryz.underlying23 hi hz0 hz1 hz2 rfl (by decide) vn nn.length (ints nn) rfl hown0 [] _ 3 [Value.int .i64 rb, Value.int .i64 rc, Value.int .i64 rd] rfl hsrc rfl h1c hbnd ?_
        intro ao cap w1 hown hgrow hat
        have cA := (hgrow.cell_far ⟨P, 1, none⟩ hp1 hne').trans c1'
        have fA := (hgrow.frozen_far ⟨P, 1, none⟩ hp1 hne').trans f1'
        have hSa := hS1 ao cap w1 hgrow
        have hSb := hS2 ao cap w1 hgrow
        refine hK.out _ _ (hSa) (fun hHeld => ?_)
        clear hK K
        try simp only [Act.put, List.setIfInBounds_toArray, List.set_cons_zero, List.set_cons_succ]
        refine wpAnyH_take (i := 22) (v := ?_) rfl (by kernel_rfl) (by kernel_rfl) (by kernel_rfl) (fun _ _ _ h => h) (Or.inl ⟨by rfl, ?_⟩) (by assumption) ?_
        rotate_left
        · (intro w hSw; (try dsimp only at hSw); go_simp; try with_reducible rfl)
        try simp only [Act.put, List.setIfInBounds_toArray, List.set_cons_zero, List.set_cons_succ]
        refine wpAnyH_take (i := 23) (v := ?_) rfl (by kernel_rfl) (by kernel_rfl) (by kernel_rfl) (fun _ _ _ h => h) (Or.inl ⟨by rfl, ?_⟩) (by assumption) ?_
        rotate_left
        · (intro w hSw; (try dsimp only at hSw); go_simp; try with_reducible rfl)
        try simp only [Act.put, List.setIfInBounds_toArray, List.set_cons_zero, List.set_cons_succ]
        refine wpAnyH_ready (rs := [24]) (by kernel_rfl) (by simp) ?_
        refine AllReadyH.cons rfl (fun K hK => ?_) AllReadyH.nil
        go_simp
        refine hK.out _ _ (hSb) (fun hHeld => ?_)
        clear hK K
        try simp only [Act.put, List.setIfInBounds_toArray, List.set_cons_zero, List.set_cons_succ]
        refine wpAnyH_done (by kernel_rfl) ?_ _
        have hF := Lib.hid (hfin ao cap w1 hown hgrow hat)
        clear hfin hown hgrow hat hS1 hS2 hSa hSb
        go_wp2_with fail
        go_roundw
        case rel => exact ⟨k + 1, _, by have := HK.out; omega, by go_num, hF.out.1, hF.out.2.1, hF.out.2.2⟩
        case measure => have := HK.out; simp [intOf]; omega
    · have hke : l.take k = l := List.take_of_length_le (by omega)
      have hn6 : I64s (numsOf l) := numsOf_i6 l hl.rng
      have hnl := numsOf_len l
      rw [hke] at hM
      have hGl := hG.lt
      have hMk : @Mk ⟨true, []⟩ 99 57 2 wr P P [] (numsOf l) 0 kd 0 := hM.mk' true (by omega) ((hG.tch tA).tch ht)
      have hCd : Cd 99 57 3 2 W wr P P (.slice none 0 0) [] [] (numsOf l) 0 kd := ⟨hMk, World.ownsRow_nil _ _ _ _, by simp [Value.ownBlock], hPW, by simp, ht⟩
      have hmsW : RMths W [] vms ms := hms.tch tA (by simp)
      have himW : RImps W [] vim im := him.tch tA (by simp)
      have hlW : Raws W (.slice aox l.length capx) l := hl.tch tA
      clear hM hMk hms him hel hG hl hke
      have HNL := Lib.hid hnl; clear hnl
      generalize numsOf l = nn at *
      go_wp2_with fail
      go_loopw [11, 12] (fun st i wz => ∃ (sl : List Int) (row : Nat) (c : List Ins) (q : Nat), sl.length ≤ 12 ∧ i = .int .i64 sl.length ∧ Cd 99 57 3 2 W wz P row st sl c nn q kd ∧ q ≤ 40000 * sl.length ∧ c.length ≤ 40069 ∧ (∀ s ∈ sl, s ≤ 69)) (fun _ i _ => 12 - (intOf i).toNat)
      case atStart => exact ⟨[], P, [], 0, by simp, rfl, hCd, by simp, by simp, by simp⟩
      case round =>
        obtain ⟨sl, row, c, q, hk12, rfl, hC, hq, hcl, hs69⟩ := hrel
        clear hCd
        obtain ⟨vc, vn, vk, hv, ho, hrow, hne, _, _⟩ := @Mk.ex ⟨true, _⟩ _ _ _ _ _ _ _ _ _ _ _ hC.mak
        obtain ⟨oc, capc, rfl⟩ := ownsRow_form ho
        have c0 : wr.cell? ⟨P, 0, none⟩ = some (.slice oc c.length capc) := by simp [World.cell?, hv]
        have hplt := heap_lt hv
        clear hv ho hrow hne
        obtain ⟨os, cps, rfl⟩ := ownsRow_form hC.own
        go_upto_region 8 with fail
        go_cut [69] (fun v wz => v = .bool (decide (sl.length < l.length ∧ sl.length < 12 ∧ c.length < 70)) ∧ wr = wz)
        case first =>
          by_cases g1 : sl.length < l.length
          · by_cases g2 : sl.length < 12
            · by_cases g3 : c.length < 70
              · have g3' : (c.length : Int) < 70 := by omega
                have g2' : (sl.length : Int) < 12 := by omega
                go_wp2_with fail
                go_meet
                exact ⟨by simp [g1, g2, g3], rfl⟩
              · have g3' : decide ((c.length : Int) < 70) = false := decide_eq_false (by omega)
                have g2' : (sl.length : Int) < 12 := by omega
                go_wp2_with fail
                go_meet
                exact ⟨by simp [g1, g2, g3], rfl⟩
            · have g2' : decide ((sl.length : Int) < 12) = false := decide_eq_false (by omega)
              go_wp2_with fail
              go_meet
              exact ⟨by simp [g1, g2], rfl⟩
          · go_wp2_with fail
            go_meet
            exact ⟨by simp [g1], rfl⟩
        case rest =>
        obtain ⟨rfl, rfl⟩ := hcut
        by_cases hgo : sl.length < l.length ∧ sl.length < 12 ∧ c.length < 70
        · rw [decide_eq_true hgo]
          obtain ⟨hg1, hg2, hg3⟩ := hgo
          have hbnd : sl.length + 1 ≤ 9223372036854775807 ∧ (sl.length + 1) * 8 ≤ 140737488355328 := by omega
          have hown0 : (wr.alloc (.cells #[.int .i64 c.length] 3)).ownsRow 0 3 1 (.slice os sl.length cps) sl.length (ints sl) := hC.own.alloc _
          have hsrc : Src (wr.alloc (.cells #[.int .i64 c.length] 3)) [] (.slice (some ⟨wr.heap.size, 0, none⟩) 1 1) 1 [.int .i64 c.length] := src_new wr _ [] #[Value.int .i64 c.length] 3 1 1 (Tch.refl [] _) (by simp)
          have h1c : ∀ u ∈ [Value.int .i64 c.length], u.oneCell' = true := by intro u hu; simp at hu; subst hu; rfl
          have hg3' : (c.length : Int) < 70 := by omega
          have hg2' : (sl.length : Int) < 12 := by omega
          go_upto_region 11 with (at_builtin; refine wpList_append_any _ rfl (.tmp 72) (.tmp 78) 23 rfl 3 i0 (.int .i64 0) 1 8 Tryz.underlying23 hi hz0 hz1 hz2 rfl (by decide) (.slice os sl.length cps) sl.length (ints sl) rfl hown0 [] _ 1 [.int .i64 c.length] rfl hsrc rfl h1c hbnd ?_; intro ao cap w1 hown hgrow hat)
          have hC1 := (hC.push (Nat.lt_trans hGl hsz) hPW (by simpa using hown) hgrow (by simpa using hat))
          obtain ⟨gs, capg, eg, _, _, hcapg⟩ : ∃ g cap', Value.slice ao (sl.length + 1) cap = .slice (some ⟨g, 0, none⟩) (sl.length + 1) cap' ∧ True ∧ True ∧ sl.length + 1 ≤ cap' := by
            rcases hown.2 with ⟨h', _⟩ | ⟨g', cap', cur', h', hb', hg', hnc', hcm', hcs', htake'⟩
            · simp at h'
            · simp only [Value.slice.injEq] at h'
              obtain ⟨rfl, _, rfl⟩ := h'
              exact ⟨g', cap, rfl, trivial, trivial, hnc'⟩
          simp only [Value.slice.injEq] at eg
          obtain ⟨rfl, _, rfl⟩ := eg
          clear hown hgrow hat hown0 hsrc h1c hbnd
          have hC2 := hC1.tch (Tch.refl [] w1).drew
          obtain ⟨_, _, e9, _, hel⟩ := id hlW.ex
          simp only [Value.slice.injEq] at e9
          obtain ⟨rfl, _, rfl⟩ := e9
          obtain ⟨ad, rfl, hadlt, hcell⟩ := hel sl.length l[sl.length] (by simp [hg1])
          have hcr : ∀ (j : Nat) u, (rawCells l[sl.length]).toList[j]? = some u → w1.drew.cell? ((ad.add (sl.length * 4)).add j) = some u := fun j u hj => by
            rw [hC2.t.cell (by rw [Addr_add_block, Addr_add_block]; exact hadlt) (by simp)]; exact hcell j u hj
          have hrg := hlW.rng l[sl.length] (List.getElem_mem hg1)
          unfold rawCells at hcr
          clear hcell hel
          obtain ⟨ro, ra, rb, rc⟩ := hrg
          generalize l[sl.length].1 = o0 at *
          generalize l[sl.length].2.1 = a0 at *
          generalize l[sl.length].2.2.1 = b0 at *
          generalize l[sl.length].2.2.2 = c0' at *
          have hst1 : Src w1.drew [P, row] (.slice (some ⟨gs, 0, none⟩) sl.length cap) sl.length (ints sl) := by
            have h0 := src_of_owns hC2.own [P, row] (fun g hg hx => by have := hC2.new g hg; simp at hx; omega)
            have e0 : ints (sl ++ [(c.length : Int)]) = ints sl ++ [.int .i64 c.length] := by simp [ints]
            rw [e0, List.length_append] at h0
            exact Src.init h0
          have hcut := run_cut_h (P := Tryz.prog) 23 3 1 Tryz.underlying23 (by kernel_rfl) (by kernel_rfl) (some ⟨gs, 0, none⟩) (sl.length + 1) cap sl.length (by omega) w1.drew
          have hgl : (sl.length : Int) < (l.length : Int) := by omega
          have hS := @mk_stmt ⟨true, (Value.slice (some ⟨gs, 0, none⟩) (sl.length + 1) cap).ownBlock.toList⟩ w1.drew P row c nn q kd hC2.mak hn6 (by have := HNL.out; omega) (by omega) (by omega) hk10 hkd W hC2.t hPW hC2.row o0 a0 b0 c0' ro ra rb _ sl hst1 (fun s hs => ⟨(hC.sl s hs).1, by have := hs69 s hs; omega⟩) (by omega) vms ms hmsW hm1 hmp vim im himW hi1 hip rfl
          refine wp_region_still_tail 10 (by kernel_rfl) (by kernel_rfl) ?_
          simp only [List.take_succ_cons, List.take_zero, List.drop_succ_cons, List.drop_zero]
          repeat still_step
          refine wpStill_step (fun K hK => ?_)
          rw [if_pos (by rfl)]
          refine still_load_agg 101 (.tmp 83) rfl (ad.add (sl.length * 4)) rfl #[.int .i64 o0, .int .i64 a0, .int .i64 b0, .int .i64 c0'] _ hcr Tryz.underlying101 rfl (by kernel_rfl) ?_
          refine hK _ ?_
          clear hK K
          repeat still_step
          refine wpStill_nil ?_
          go_wp2_with fail
          refine hS.mono ?_
          rintro e w3 ⟨rfl, hm3⟩
          obtain ⟨row', c', q', hC3, hl1, hl2, hq'⟩ := hC2.made hPW hm3
          go_wp2_with fail
          go_roundw
          case rel => exact ⟨sl ++ [(c.length : Int)], row', c', q', by simp; omega, by simp, by simpa using hC3, by simp; omega, by omega, fun s hs => by
            rcases List.mem_append.1 hs with h | h
            · exact hs69 s h
            · simp at h; omega⟩
          case measure => simp [intOf]; omega
        · rw [decide_eq_false hgo]
          have hbnd : sl.length + 1 ≤ 9223372036854775807 ∧ (sl.length + 1) * 8 ≤ 140737488355328 := by omega
          have hown0 : (wr.alloc (.cells #[.int .i64 c.length] 3)).ownsRow 0 3 1 (.slice os sl.length cps) sl.length (ints sl) := hC.own.alloc _
          have hsrc : Src (wr.alloc (.cells #[.int .i64 c.length] 3)) [] (.slice (some ⟨wr.heap.size, 0, none⟩) 1 1) 1 [.int .i64 c.length] := src_new wr _ [] #[Value.int .i64 c.length] 3 1 1 (Tch.refl [] _) (by simp)
          have h1c : ∀ u ∈ [Value.int .i64 c.length], u.oneCell' = true := by intro u hu; simp at hu; subst hu; rfl
          go_upto_region 13 with (at_builtin; refine wpList_append_any _ rfl (.tmp 91) (.tmp 97) 23 rfl 3 i0 (.int .i64 0) 1 8 Tryz.underlying23 hi hz0 hz1 hz2 rfl (by decide) (.slice os sl.length cps) sl.length (ints sl) rfl hown0 [] _ 1 [.int .i64 c.length] rfl hsrc rfl h1c hbnd ?_; intro ao cap w1 hown hgrow hat)
          have hC1 := (hC.push (Nat.lt_trans hGl hsz) hPW (by simpa using hown) hgrow (by simpa using hat))
          obtain ⟨gs, rfl, hcapg⟩ : ∃ g, ao = some ⟨g, 0, none⟩ ∧ sl.length + 1 ≤ cap := by
            rcases hown.2 with ⟨h', _⟩ | ⟨g', cap', cur', h', hb', hg', hnc', hcm', hcs', htake'⟩
            · simp at h'
            · simp only [Value.slice.injEq] at h'
              obtain ⟨rfl, _, rfl⟩ := h'
              exact ⟨g', rfl, hnc'⟩
          clear hown hgrow hat hown0 hsrc h1c hbnd
          obtain ⟨sl', hsl'⟩ : ∃ s, s = sl ++ [(c.length : Int)] := ⟨_, rfl⟩
          obtain ⟨M, hM⟩ : ∃ M, M = sl.length + 1 := ⟨_, rfl⟩
          have HM := Lib.hid (show sl'.length = M by rw [hsl', hM]; simp)
          have hM1 : 1 ≤ M ∧ M ≤ 13 := by omega
          rw [← hsl', ← hM] at hC1
          rw [← hM]
          have hN : c.length ≤ 40069 := hcl
          have hq5 : q ≤ 500000 := by omega
          clear hsl' hM hC hs69 hgo c0 hplt hmsW himW hlW hk12 hcapg
          obtain ⟨N, hN0⟩ : ∃ N, N = c.length := ⟨_, rfl⟩
          go_wp2_with fail
          go_loopw [13] (fun pc wz => ∃ (j : Nat) (c' : List Ins), j ≤ N ∧ pc = .int .i64 j ∧ c'.length = N ∧ Cd 99 57 3 2 W wz P row (.slice (some ⟨gs, 0, none⟩) M cap) sl' c' nn q kd ∧ (120 ≤ N ∨ ∀ (i : Nat) x, i < j → c'[i]? = some x → rightI x.op x.a x.b = true)) (fun pc _ => N - (intOf pc).toNat)
          case atStart => exact ⟨0, c, by omega, rfl, hN0.symm, hC1, .inr (fun i x h => by omega)⟩
          case round =>
            obtain ⟨j, c', hjN, rfl, hcl', hCj, hri⟩ := hrel
            clear hC1
            rw [hN0.symm] at hN
            clear hN0 hcl
            have HCL := Lib.hid hcl'; clear hcl'
            obtain ⟨vc, vn, vk, hv, ho, hrow, hne, _, _⟩ := @Mk.ex ⟨true, _⟩ _ _ _ _ _ _ _ _ _ _ _ hCj.mak
            obtain ⟨oc, capc, rfl⟩ := ownsRow_form ho
            have c0 : wr.cell? ⟨P, 0, none⟩ = some (.slice oc N capc) := by
              have := HCL.out
              rw [← this]
              simp [World.cell?, hv]
            by_cases hjl : j < N
            · obtain ⟨rw', capc', er, _, _⟩ := World.ownsRow.form ho (by have := HCL.out; omega)
              simp only [Value.slice.injEq] at er
              obtain ⟨rfl, _, rfl⟩ := er
              have hrg : row = rw' := by simpa [Value.ownBlock] using hrow
              subst hrg
              have hjc : j < c'.length := by have := HCL.out; omega
              have o1 : wr.cell? ⟨row, j * 3, none⟩ = some (.int .i64 c'[j].op) := (World.ownsRow.cellAt ho (j * 3) (by omega)).trans (codeCells_at c' j hjc).1
              have o2 : wr.cell? ⟨row, j * 3 + 1, none⟩ = some (.int .i64 c'[j].a) := (World.ownsRow.cellAt ho (j * 3 + 1) (by omega)).trans (codeCells_at c' j hjc).2
              have o3 : wr.frozen? ⟨row, j * 3 + 1, none⟩ = false := World.ownsRow.frozenAt ho _
              have hokx : 120 ≤ N ∨ @okI ⟨true, _⟩ c'[j] := (@Mk.ok ⟨true, _⟩ _ _ _ _ _ _ _ _ _ _ _ hCj.mak).elim (fun h => .inr (h _ (List.getElem_mem hjc))) (fun h => .inl (by have := HCL.out; omega))
              have hget : c'[j]? = some c'[j] := by simp [hjc]
              have hset : ∀ A : Int, @okC ⟨true, (Value.slice (some ⟨gs, 0, none⟩) M cap).ownBlock.toList⟩ (c'.set j ⟨c'[j].op, A, c'[j].b⟩) → Cd 99 57 3 2 W (wr.setCell ⟨row, j * 3 + 1, none⟩ (.int .i64 A)) P row (.slice (some ⟨gs, 0, none⟩) M cap) sl' (c'.set j ⟨c'[j].op, A, c'[j].b⟩) nn q kd := fun A h => hCj.setAt (Nat.lt_trans hGl hsz) hPW j hjc A h
              have hall := @Mk.ok ⟨true, _⟩ _ _ _ _ _ _ _ _ _ _ _ hCj.mak
              clear hv ho hrow hne
              generalize c'[j] = x at *
              by_cases hop : x.op = 24 ∧ x.a < 0
              · obtain ⟨hop1, hop2⟩ := hop
                have e1 : (x.op == 24) = true := by simp [hop1]
                have e2 : decide (x.a < 0) = true := decide_eq_true hop2
                have hownM : wr.ownsRow 0 3 1 (.slice (some ⟨gs, 0, none⟩) M cap) M (ints sl') := by
                  have h1 := hCj.own
                  rw [HM.out] at h1
                  exact h1
                have hsl : ∀ m, m < M → wr.cell? ⟨gs, m, none⟩ = some (.int .i64 (sl'.getD m 0)) ∧ 0 ≤ sl'.getD m 0 ∧ sl'.getD m 0 ≤ N := fun m hm => by
                  have hm' : m < sl'.length := by have := HM.out; omega
                  have hd : sl'.getD m 0 = sl'[m] := by simp [List.getD, hm']
                  have h1 := World.ownsRow.cellAt hownM m (by omega)
                  have h2 := hCj.sl sl'[m] (List.getElem_mem hm')
                  refine ⟨by rw [hd, h1]; simp [ints, hm'], ?_, ?_⟩ <;> rw [hd] <;> have := HCL.out <;> omega
                have hfin : ∀ A : Int, 0 ≤ A → A ≤ N → Cd 99 57 3 2 W ((wr.setCell ⟨row, j * 3 + 1, none⟩ (.int .i64 A)).drew) P row (.slice (some ⟨gs, 0, none⟩) M cap) sl' (c'.set j ⟨x.op, A, x.b⟩) nn q kd ∧ (120 ≤ N ∨ ∀ (i : Nat) y, i < j + 1 → (c'.set j ⟨x.op, A, x.b⟩)[i]? = some y → rightI y.op y.a y.b = true) := fun A hA0 hA1 => by
                  have hL := HCL.out
                  have hnewr : 120 ≤ N ∨ rightI x.op A x.b = true := by
                    rcases hokx with h | h
                    · exact .inl h
                    · by_cases h120 : 120 ≤ N
                      · exact .inl h120
                      · right
                        rcases h with h | h
                        · rw [hop1] at h
                          have := right_open h
                          omega
                        · rw [hop1, h.2.2.2]
                          exact right_jump A ⟨hA0, by omega⟩
                  refine ⟨(hset A ?_).tch (Tch.refl [] _).drew, ?_⟩
                  · rcases hnewr with h | h
                    · exact .inr (by simp; omega)
                    · rcases hall with h' | h'
                      · refine .inl (fun y hy => ?_)
                        rcases List.mem_or_eq_of_mem_set hy with h1 | h1
                        · exact h' y h1
                        · rw [h1]; exact .inl h
                      · exact .inr (by simpa using h')
                  · rcases hnewr with h | h
                    · exact .inl h
                    · rcases hri with h' | h'
                      · exact .inl h'
                      · refine .inr (fun i y hi hy => ?_)
                        by_cases hij : i = j
                        · subst hij
                          have hlt := (List.getElem?_eq_some_iff.1 hy).1
                          simp at hlt
                          rw [List.getElem?_set_self (by simpa using hlt)] at hy
                          obtain rfl := Option.some.inj hy
                          exact h
                        · rw [List.getElem?_set_ne (by omega)] at hy
                          exact h' i y (by omega) hy
                clear hokx hset hall hget hri hop1 hop2
                go_wp2_with fail
                go_loopw [14] (fun kk wz => ∃ m : Nat, m + 1 ≤ M ∧ kk = .int .i64 m ∧ wr = wz) (fun kk _ => M - (intOf kk).toNat)
                case atStart => exact ⟨0, by omega, rfl, rfl⟩
                case round =>
                  obtain ⟨m, hm, rfl, rfl⟩ := hrel
                  obtain ⟨s1, _, _⟩ := hsl m (by omega)
                  go_upto_region 18 with fail
                  go_cut [140] (fun v wz => v = .bool (decide (m + 1 < M ∧ sl'.getD m 0 ≤ (j : Int))) ∧ wr = wz)
                  case first =>
                    generalize sl'.getD m 0 = sm at *
                    by_cases g1 : m + 1 < M
                    · have g1' : (m : Int) < (M : Int) - 1 := by omega
                      by_cases g2 : sm ≤ (j : Int)
                      · go_wp2_with fail
                        go_meet
                        exact ⟨by simp [g1, g2], rfl⟩
                      · have g2' : decide (sm ≤ (j : Int)) = false := decide_eq_false g2
                        go_wp2_with fail
                        go_meet
                        exact ⟨by simp [g1, g2], rfl⟩
                    · have g1' : decide ((m : Int) < (M : Int) - 1) = false := decide_eq_false (by omega)
                      go_wp2_with fail
                      go_meet
                      exact ⟨by simp [g1], rfl⟩
                  case rest =>
                  obtain ⟨rfl, rfl⟩ := hcut
                  by_cases hgo : m + 1 < M ∧ sl'.getD m 0 ≤ (j : Int)
                  · rw [decide_eq_true hgo]
                    have hm1 := hgo.1
                    clear hgo s1
                    go_wp2_with fail
                    go_roundw
                    case rel => exact ⟨m + 1, by omega, by go_num, by first | rfl | trivial⟩
                    case measure => simp [intOf]; omega
                  · rw [decide_eq_false hgo]
                    clear hgo
                    obtain ⟨ix, hix, hmin⟩ : ∃ ix : Nat, ix < M ∧ min ((M : Int) - 1) ((m : Int) + 1) = (ix : Int) := by
                      by_cases h : m + 1 < M
                      · exact ⟨m + 1, h, by omega⟩
                      · exact ⟨m, by omega, by omega⟩
                    obtain ⟨sA, hA0, hA1⟩ := hsl ix hix
                    have sAd : wr.drew.cell? ⟨gs, ix, none⟩ = some (.int .i64 (sl'.getD ix 0)) := sA
                    generalize sl'.getD ix 0 = A at *
                    have hF := Lib.hid (hfin A hA0 hA1)
                    have hixM : (ix : Int) < (M : Int) := by omega
                    have hwa : IntKind.i64.wrap ((m : Int) + 1) = (m : Int) + 1 := IntWalk.i64_in _ (by omega)
                    have hwb : IntKind.i64.wrap ((M : Int) - 1) = (M : Int) - 1 := IntWalk.i64_in _ (by omega)
                    have hite : (if IntKind.i64.wrap ((m : Int) + 1) < IntKind.i64.wrap ((M : Int) - 1) then IntKind.i64.wrap ((m : Int) + 1) else IntKind.i64.wrap ((M : Int) - 1)) = (ix : Int) := by
                      rw [hwa, hwb]
                      split <;> omega
                    clear hwa hwb hmin
                    go_upto_region 20 with fail
                    have c0d : wr.drew.cell? ⟨P, 0, none⟩ = some (.slice (some ⟨row, 0, none⟩) N capc) := c0
                    have o2d : wr.drew.cell? ⟨row, j * 3 + 1, none⟩ = some (.int .i64 x.a) := o2
                    have o3d : wr.drew.frozen? ⟨row, j * 3 + 1, none⟩ = false := o3
                    have hm0 : (0 : Int) ≤ (ix : Int) := by omega
                    have hj0 : (j : Int) < (N : Int) := by omega
                    go_still_tail 16, (by kernel_rfl)
                    go_wp2_with fail
                    go_roundw
                    case rel => exact ⟨j + 1, c'.set j ⟨x.op, A, x.b⟩, by omega, by go_num, by have := HCL.out; simp; omega, hF.out.1, hF.out.2⟩
                    case measure => simp [intOf]; omega
              · have hrx : 120 ≤ N ∨ rightI x.op x.a x.b = true := hokx.elim .inl (fun h => h.elim .inr (fun h => absurd ⟨h.2.1, by rw [h.2.2.1]; decide⟩ hop))
                have hrel' : 120 ≤ N ∨ ∀ (i : Nat) y, i < j + 1 → c'[i]? = some y → rightI y.op y.a y.b = true := by
                  rcases hrx with h | h
                  · exact .inl h
                  · rcases hri with h' | h'
                    · exact .inl h'
                    · refine .inr (fun i y hi hy => ?_)
                      by_cases hij : i = j
                      · subst hij
                        rw [hget] at hy
                        obtain rfl := Option.some.inj hy
                        exact h
                      · exact h' i y (by omega) hy
                have hcs : ((x.op == 24) = false) ∨ ((x.op == 24) = true ∧ decide (x.a < 0) = false) := by
                  by_cases h1 : x.op = 24
                  · exact .inr ⟨by simp [h1], decide_eq_false (fun h2 => hop ⟨h1, h2⟩)⟩
                  · exact .inl (beq_eq_false_iff_ne.2 h1)
                clear hokx hset hall hget hop hrx hri
                have HR := Lib.hid hrel'; clear hrel'
                rcases hcs with e1 | ⟨e1, e2⟩
                · go_wp2_with fail
                  go_roundw
                  case rel => exact ⟨j + 1, c', by omega, by go_num, HCL.out, hCj, HR.out⟩
                  case measure => simp [intOf]; omega
                · go_wp2_with fail
                  go_roundw
                  case rel => exact ⟨j + 1, c', by omega, by go_num, HCL.out, hCj, HR.out⟩
                  case measure => simp [intOf]; omega
            · letI : OkP := ⟨false, []⟩
              have hje : j = N := by omega
              have hMf : @Mk ⟨false, []⟩ 99 57 2 wr P row c' nn q kd 0 := hCj.close (hri.elim (fun h => .inl (by have := HCL.out; omega)) (fun h => .inr (fun i x hi hx => h i x (by have := HCL.out; omega) hx)))
              have TW := hCj.t
              have hrW := hCj.row
              have hc'l : c'.length ≤ 40069 := by have := HCL.out; omega
              have hnl5 : nn.length ≤ 9223372036854775807 := by have := HNL.out; omega
              have x11 : wr.cell? ⟨w.heap.size, 1, none⟩ = some (.int .i64 mt.result) := by rw [TW.cell (cell_lt x1) (by simp)]; exact x1
              clear hCj hri hv ho hrow hne hje
              by_cases hr0 : mt.result = 0
              · rw [hr0] at x11
                obtain ⟨r1, hr1⟩ : ∃ r, r = row := ⟨_, rfl⟩
                obtain ⟨c1, hc1⟩ : ∃ c : List Ins, c = c' := ⟨_, rfl⟩
                obtain ⟨q1, hq1⟩ : ∃ z : Nat, z = q := ⟨_, rfl⟩
                have hM2 : @Mk ⟨false, []⟩ 99 57 2 wr P r1 c1 nn q1 kd 0 := by rw [hr1, hc1, hq1]; exact hMf
                have T2 : Tch [] W wr := TW
                have hc1l : c1.length ≤ 40069 := by rw [hc1]; exact hc'l
                have hr1W : W.heap.size ≤ r1 := by omega
                clear hr1 hc1 hq1 hMf TW
                generalize wr = w2 at *
                go_wp2_with fail
                refine (@mk_put ⟨false, []⟩ w2 P r1 c1 nn q1 kd 0 hM2 39 0 0 (.inl rfl) (by omega)).mono ?_
                rintro e V3 ⟨rfl, r3, hM3, L3⟩
                have T3 : Tch [] W V3 := T2.trans L3.t (by simp) (fun i hi hx => by simp at hx; omega)
                have hr3 := L3.r
                have hz3 := T2.size
                clear L3
                obtain ⟨c2, hc2⟩ : ∃ c2, c2 = c1 ++ [⟨39, 0, 0⟩] := ⟨_, rfl⟩
                have HL2 := Lib.hid (show c2.length = c1.length + 1 by rw [hc2]; simp)
                have hok2 := @Mk.ok ⟨false, []⟩ _ _ _ _ _ _ _ _ _ _ _ hM3
                rw [← hc2] at hM3 hok2
                have hright : c2.length ≤ 120 → ∀ x ∈ c2, rightI x.op x.a x.b = true := fun hl => by
                  have hl2 := HL2.out
                  have hok1 := @Mk.ok ⟨false, []⟩ _ _ _ _ _ _ _ _ _ _ _ hM2
                  rcases hok1 with h | h
                  · intro x hx
                    rw [hc2] at hx
                    rcases List.mem_append.1 hx with h1 | h1
                    · rcases h x h1 with h2 | ⟨h2, _⟩
                      · exact h2
                      · cases h2
                    · simp at h1; subst h1; rfl
                  · omega
                clear hok2 hM2 hc2
                obtain ⟨vc, vn3, vk3, hv3, ho3, hrow3, hne3, _, _⟩ := hM3.ex
                obtain ⟨oc, capc, rfl⟩ := ownsRow_form ho3
                have hP3 := heap_lt hv3
                have k0 : V3.cell? ⟨P, 0, none⟩ = some (.slice oc c2.length capc) := by simp [World.cell?, hv3]
                have g0 : V3.frozen? ⟨P, 0, none⟩ = false := by simp [World.frozen?, hv3]
                have kr : V3.cell? ⟨w.heap.size, 1, none⟩ = some (.int .i64 0) := by rw [T3.cell (cell_lt x1) (by simp)]; exact hr0 ▸ x1
                by_cases h120 : c2.length ≤ 120
                · have h12 : decide (120 < (c2.length : Int)) = false := decide_eq_false (by omega)
                  have h12' : decide (120 < c2.length) = false := decide_eq_false (by omega)
                  go_wp2_with fail
                  go_ret
                  refine ⟨c2, oc, capc, rfl, ho3, fun g hg => ?_, hright h120, by have := HL2.out; omega, h120, tA.then T3⟩
                  rw [hg] at hrow3; simp at hrow3; omega
                · have h12 : decide (120 < (c2.length : Int)) = true := decide_eq_true (by omega)
                  have h12' : decide (120 < c2.length) = true := decide_eq_true (by omega)
                  have hPn : P ≠ w.heap.size := by omega
                  have zV : W.heap.size ≤ V3.heap.size := T3.size
                  have es4 : (V3.setCell ⟨P, 0, none⟩ (.slice (some ⟨V3.heap.size, 0, none⟩) 1 1)).heap.size = V3.heap.size := by simp [World.setCell]
                  obtain ⟨V4, hV4⟩ : ∃ V, V = (V3.setCell ⟨P, 0, none⟩ (.slice (some ⟨V3.heap.size, 0, none⟩) 1 1)).alloc (.cells #[.int .i64 39, .int .i64 0, .int .i64 0] 57) := ⟨_, rfl⟩
                  have K4 : V4.cell? ⟨P, 0, none⟩ = some (.slice (some ⟨V3.heap.size, 0, none⟩) 1 1) := by rw [hV4]; exact (World.cell?_alloc_past _ _ _ (by rw [es4]; exact hP3)).trans (by simp [go_sem, k0])
                  have G4 : V4.frozen? ⟨P, 0, none⟩ = false := by rw [hV4]; exact (World.frozen?_alloc_past _ _ _ (by rw [es4]; exact hP3)).trans (by simp [go_sem, g0])
                  have O4 : V4.ownsRow 0 57 3 (.slice (some ⟨V3.heap.size, 0, none⟩) 1 1) 1 [.int .i64 39, .int .i64 0, .int .i64 0] := by
                    have := World.ownsRow_lit (base := 0) (e := 57) (size := 3) (V3.setCell ⟨P, 0, none⟩ (.slice (some ⟨V3.heap.size, 0, none⟩) 1 1)) #[.int .i64 39, .int .i64 0, .int .i64 0] 1 (Nat.zero_le _) (by decide) rfl
                    rw [es4] at this
                    rw [hV4]; exact this
                  have t4 : Tch [P] V3 V4 := by rw [hV4]; exact ((Tch.refl [P] V3).setCell (.inl (by simp)) _).alloc _
                  have T4 : Tch [] W V4 := T3.trans t4 (by simp) (fun i hi hx => by simp at hx; omega)
                  have kr4 := (t4.cell (p := ⟨w.heap.size, 1, none⟩) (cell_lt kr) (by simp; omega)).trans kr
                  have z4 : V3.heap.size + 1 ≤ V4.heap.size := by rw [hV4]; simp [World.setCell]
                  clear t4 es4
                  go_upto_region 26 with fail
                  rw [← hV4]
                  clear hV4 k0 g0
                  go_wp2_with fail
                  go_ret
                  exact ⟨[⟨39, 0, 0⟩], some ⟨V3.heap.size, 0, none⟩, 1, rfl, O4, fun g hg => by simp [Value.ownBlock] at hg; omega, by intro x hx; simp at hx; subst hx; rfl, by simp, by simp, tA.then T4⟩

              · have hrb : (mt.result != 0) = true := by simp [hr0]
                go_wp2_with fail
                refine (@mk_any ⟨false, []⟩ wr P row c' nn q kd hMf hn6 hnl5 (by omega) (by omega) hk10 mt.result (by omega)).mono ?_
                rintro e w2 ⟨rfl, c1, q1, r1, hM2, L2⟩
                have hc1l := L2.l
                have T2 : Tch [] W w2 := TW.trans L2.t (by simp) (fun i hi hx => by simp at hx; omega)
                have hr1W : W.heap.size ≤ r1 := by have := L2.r; have := TW.size; omega
                clear L2 hMf
                go_wp2_with fail
                refine (@mk_put ⟨false, []⟩ w2 P r1 c1 nn q1 kd 0 hM2 39 0 0 (.inl rfl) (by omega)).mono ?_
                rintro e V3 ⟨rfl, r3, hM3, L3⟩
                have T3 : Tch [] W V3 := T2.trans L3.t (by simp) (fun i hi hx => by simp at hx; omega)
                have hr3 := L3.r
                have hz3 := T2.size
                clear L3
                obtain ⟨c2, hc2⟩ : ∃ c2, c2 = c1 ++ [⟨39, 0, 0⟩] := ⟨_, rfl⟩
                have HL2 := Lib.hid (show c2.length = c1.length + 1 by rw [hc2]; simp)
                have hok2 := @Mk.ok ⟨false, []⟩ _ _ _ _ _ _ _ _ _ _ _ hM3
                rw [← hc2] at hM3 hok2
                have hright : c2.length ≤ 120 → ∀ x ∈ c2, rightI x.op x.a x.b = true := fun hl => by
                  have hl2 := HL2.out
                  have hok1 := @Mk.ok ⟨false, []⟩ _ _ _ _ _ _ _ _ _ _ _ hM2
                  rcases hok1 with h | h
                  · intro x hx
                    rw [hc2] at hx
                    rcases List.mem_append.1 hx with h1 | h1
                    · rcases h x h1 with h2 | ⟨h2, _⟩
                      · exact h2
                      · cases h2
                    · simp at h1; subst h1; rfl
                  · omega
                clear hok2 hM2 hc2
                obtain ⟨vc, vn3, vk3, hv3, ho3, hrow3, hne3, _, _⟩ := hM3.ex
                obtain ⟨oc, capc, rfl⟩ := ownsRow_form ho3
                have hP3 := heap_lt hv3
                have k0 : V3.cell? ⟨P, 0, none⟩ = some (.slice oc c2.length capc) := by simp [World.cell?, hv3]
                have g0 : V3.frozen? ⟨P, 0, none⟩ = false := by simp [World.frozen?, hv3]
                have kr : V3.cell? ⟨w.heap.size, 1, none⟩ = some (.int .i64 mt.result) := by rw [T3.cell (cell_lt x1) (by simp)]; exact x1
                by_cases h120 : c2.length ≤ 120
                · have h12 : decide (120 < (c2.length : Int)) = false := decide_eq_false (by omega)
                  have h12' : decide (120 < c2.length) = false := decide_eq_false (by omega)
                  go_wp2_with fail
                  go_ret
                  refine ⟨c2, oc, capc, rfl, ho3, fun g hg => ?_, hright h120, by have := HL2.out; omega, h120, tA.then T3⟩
                  rw [hg] at hrow3; simp at hrow3; omega
                · have h12 : decide (120 < (c2.length : Int)) = true := decide_eq_true (by omega)
                  have h12' : decide (120 < c2.length) = true := decide_eq_true (by omega)
                  have hPn : P ≠ w.heap.size := by omega
                  have zV : W.heap.size ≤ V3.heap.size := T3.size
                  have es4 : (V3.setCell ⟨P, 0, none⟩ (.slice (some ⟨V3.heap.size, 0, none⟩) 1 1)).heap.size = V3.heap.size := by simp [World.setCell]
                  obtain ⟨V4, hV4⟩ : ∃ V, V = (V3.setCell ⟨P, 0, none⟩ (.slice (some ⟨V3.heap.size, 0, none⟩) 1 1)).alloc (.cells #[.int .i64 39, .int .i64 0, .int .i64 0] 57) := ⟨_, rfl⟩
                  have K4 : V4.cell? ⟨P, 0, none⟩ = some (.slice (some ⟨V3.heap.size, 0, none⟩) 1 1) := by rw [hV4]; exact (World.cell?_alloc_past _ _ _ (by rw [es4]; exact hP3)).trans (by simp [go_sem, k0])
                  have G4 : V4.frozen? ⟨P, 0, none⟩ = false := by rw [hV4]; exact (World.frozen?_alloc_past _ _ _ (by rw [es4]; exact hP3)).trans (by simp [go_sem, g0])
                  have O4 : V4.ownsRow 0 57 3 (.slice (some ⟨V3.heap.size, 0, none⟩) 1 1) 1 [.int .i64 39, .int .i64 0, .int .i64 0] := by
                    have := World.ownsRow_lit (base := 0) (e := 57) (size := 3) (V3.setCell ⟨P, 0, none⟩ (.slice (some ⟨V3.heap.size, 0, none⟩) 1 1)) #[.int .i64 39, .int .i64 0, .int .i64 0] 1 (Nat.zero_le _) (by decide) rfl
                    rw [es4] at this
                    rw [hV4]; exact this
                  have t4 : Tch [P] V3 V4 := by rw [hV4]; exact ((Tch.refl [P] V3).setCell (.inl (by simp)) _).alloc _
                  have T4 : Tch [] W V4 := T3.trans t4 (by simp) (fun i hi hx => by simp at hx; omega)
                  have kr4 := (t4.cell (p := ⟨w.heap.size, 1, none⟩) (cell_lt kr) (by simp; omega)).trans kr
                  have z4 : V3.heap.size + 1 ≤ V4.heap.size := by rw [hV4]; simp [World.setCell]
                  clear t4 es4
                  go_upto_region 26 with fail
                  rw [← hV4]
                  clear hV4 k0 g0
                  have hP4 : P < V4.heap.size := by omega
                  have es5 : (V4.setCell ⟨P, 0, none⟩ (.slice (some ⟨V4.heap.size, 0, none⟩) 2 2)).heap.size = V4.heap.size := by simp [World.setCell]
                  obtain ⟨V5, hV5⟩ : ∃ V, V = (V4.setCell ⟨P, 0, none⟩ (.slice (some ⟨V4.heap.size, 0, none⟩) 2 2)).alloc (.cells #[.int .i64 1, .int .i64 0, .int .i64 0, .int .i64 39, .int .i64 0, .int .i64 0] 57) := ⟨_, rfl⟩
                  have K5 : V5.cell? ⟨P, 0, none⟩ = some (.slice (some ⟨V4.heap.size, 0, none⟩) 2 2) := by rw [hV5]; exact (World.cell?_alloc_past _ _ _ (by rw [es5]; exact hP4)).trans (by simp [go_sem, K4])
                  have O5 : V5.ownsRow 0 57 3 (.slice (some ⟨V4.heap.size, 0, none⟩) 2 2) 2 [.int .i64 1, .int .i64 0, .int .i64 0, .int .i64 39, .int .i64 0, .int .i64 0] := by
                    have := World.ownsRow_lit (base := 0) (e := 57) (size := 3) (V4.setCell ⟨P, 0, none⟩ (.slice (some ⟨V4.heap.size, 0, none⟩) 2 2)) #[.int .i64 1, .int .i64 0, .int .i64 0, .int .i64 39, .int .i64 0, .int .i64 0] 2 (Nat.zero_le _) (by decide) rfl
                    rw [es5] at this
                    rw [hV5]; exact this
                  have t5 : Tch [P] V4 V5 := by rw [hV5]; exact ((Tch.refl [P] V4).setCell (.inl (by simp)) _).alloc _
                  have T5 : Tch [] W V5 := T4.trans t5 (by simp) (fun i hi hx => by simp at hx; omega)
                  clear t5 es5 O4
                  have hrb : (mt.result != 0) = true := by simp [hr0]
                  go_upto_region 28 with fail
                  rw [← hV5]
                  clear hV5
                  go_wp2_with fail
                  go_ret
                  exact ⟨[⟨1, 0, 0⟩, ⟨39, 0, 0⟩], some ⟨V4.heap.size, 0, none⟩, 2, rfl, O5, fun g hg => by simp [Value.ownBlock] at hg; omega, by intro x hx; simp at hx; rcases hx with rfl | rfl <;> rfl, by simp, by simp, tA.then T5⟩

end Go.Proofs.YteebapopeaafhaaGreatDoor
