/-
  CONTRACTS: verify: do. Conditions: a stack of 8 at most.
-/
import Derived.Test.YtpabkjjonbhdeaaDoorHVe4
import Derived.Test.YtpabkjjonbhdeaaDoorHVe6
import Derived.Test.YtpabkjjonbhdeaaDoorHVe8
import Derived.Deep.RegionHeld3
namespace Go.Tcn
open Go.RowKit
set_option linter.unusedVariables false
set_option linter.unusedSimpArgs false
theorem wpList_load_agg_v {P : Program} {ops : Array Oper} {rest : List Oper} {o : Oper} {a : Act} {w : World} {Q : Exit → Act → World → Prop} (hw : Region.wanted o (yielded ops a.tmps) = true) (ty : TypeId) (x : Operand) (ho : o.op = .load ty x)
    (ad : Addr) (hx : a.eval x = .pointer (some ad)) (cs : Array Value) (d : TypeDesc) (hc : ∀ (j : Nat) u, cs.toList[j]? = some u → w.cell? (ad.add j) = some u)
    (hu : P.underlying ty = some d) (hd : (match d with | .struct _ | .array _ _ => true | _ => false) = true) (hi : (P.info? ty).map (·.size) = some cs.size)
    (h : wpList P ops Q rest (a.put o.dst (.agg cs)) w) : wpList P ops Q (o :: rest) a w :=
  BigFrame.wpList_want hw fun _ hK => wp_load_agg ty x ho ad hx cs d hc hu hd hi (hK _ _ h)
end Go.Tcn
namespace Go.Proofs.YtpabkjjonbhdeaaDoor
open Go.RowKit Go.Tcn
set_option linter.unusedVariables false
set_option linter.unusedSimpArgs false
theorem resL_len (k : Int) : (resL k).length ≤ 1 := by unfold resL; split <;> simp
theorem gives_len (i : Img) (m : Mth) (x : Ins) (l l' : List Int) : (givesF i m x l).length = (givesF i m x l').length := by
  unfold givesF
  simp only [apply_ite List.length, List.length_cons, List.length_nil, ite_self]
theorem ite_le2 {c : Prop} [Decidable c] {a b : Nat} (ha : a ≤ 2) (hb : b ≤ 2) : (if c then a else b) ≤ 2 := by split <;> assumption
theorem gives_le (i : Img) (m : Mth) (x : Ins) (l : List Int) : (givesF i m x l).length ≤ 2 := by
  have h1 := resL_len (methAt i x.a).result
  have h2 := resL_len (impAt i x.a).result
  unfold givesF
  simp only [apply_ite List.length, List.length_cons, List.length_nil, ite_self]
  repeat' (first | omega | apply ite_le2)
theorem do_le {i : Img} {m : Mth} {x : Ins} {st l : List Int} (h : doF i m x st = .ok l) : l.length ≤ 8 := by
  unfold doF at h
  simp only at h
  split at h
  · cases h
  · rename_i h1
    split at h
    · cases h
    · split at h
      · cases h
      · simp only [Except.ok.injEq] at h
        subst h
        rw [List.length_append, List.length_take, gives_len i m x _ (List.replicate 8 0)]
        omega
/-- What was done: an error, or a new stack. -/
def DoneR (w w' : World) (e : Ending) : Except Int (List Int) → Prop
  | .error k => e = .returned (.tuple #[.slice none 0 0, .int .i64 k])
  | .ok l => ∃ ao cap, e = .returned (.tuple #[.slice ao l.length cap, .int .i64 0]) ∧ ∀ M : List Nat, (∀ i ∈ M, i < w.heap.size) → RInts w' M (.slice ao l.length cap) l
set_option maxRecDepth 100000 in
set_option maxHeartbeats 4000000 in
theorem ve_CloneO (w : World) (ao : Option Addr) (c : Nat) (l : List Int) (hl : RInts w [] (.slice ao l.length c) l) (hm : l.length ≤ 100000) :
    Calls Tryd.prog 45 #[.slice ao l.length c] w fun e w' => ∃ ao' cap, e = .returned (.slice ao' l.length cap) ∧ w'.ownsRow 0 3 1 (.slice ao' l.length cap) l.length (ints l) ∧ (∀ k, (Value.slice ao' l.length cap).ownBlock = some k → w.heap.size ≤ k) ∧ Tch [] w w' := by
  obtain ⟨i0, hi0, hz00, hz01, hz02⟩ := info_parts info_intC
  have hnil := fun (W : World) (a : Option Addr) (n d : Nat) => Lib.run_eql_slice_nil (P := Tryd.prog) W 22 3 a n d 0 0 Tryd.underlying22
  cases ao with
  | none =>
    rcases hl.ex with ⟨_, h0, _⟩ | ⟨ad, c', h0, _⟩
    · have hc : l = [] := List.eq_nil_of_length_eq_zero h0
      subst hc
      go_enter Tryd.func45, Tryd.ntmps45
      go_wp2_with fail
      go_ret
      exact ⟨none, 0, rfl, World.ownsRow_nil _ _ _ _, by simp [Value.ownBlock], Tch.refl _ _⟩
    · cases h0
  | some ad =>
    have hown0 : (w.alloc (.cells #[] 3)).ownsRow 0 3 1 (.slice (some ⟨w.heap.size, 0, none⟩) 0 0) 0 [] := World.ownsRow_lit w #[] 0 (Nat.zero_le _) (by decide) rfl
    have ta : Tch [] w (w.alloc (.cells #[] 3)) := (Tch.refl [] w).alloc _
    have hS : RInts (w.alloc (.cells #[] 3)) [] (.slice (some ad) l.length c) l := hl.tch ta (by simp)
    have hbnd : 0 + l.length ≤ 9223372036854775807 ∧ (0 + l.length) * 8 ≤ 140737488355328 := by omega
    go_enter Tryd.func45, Tryd.ntmps45
    go_wp2_with (at_builtin; refine wpList_append_any _ rfl (.tmp 5) (.tmp 6) 22 rfl 3 i0 (.int .i64 0) 1 8 Tryd.underlying22 hi0 hz00 hz01 hz02 rfl (by decide) (.slice (some ⟨w.heap.size, 0, none⟩) 0 0) 0 [] rfl hown0 [] (.slice (some ad) l.length c) l.length (ints l) rfl hS (by simp) (ints_one l) hbnd ?_; intro ao5 cap5 w5 hown5 hgrow5 hat5)
    go_ret
    simp only [Nat.zero_add, List.nil_append] at hown5 hat5 ⊢
    have hge : ∀ k, (Value.slice ao5 l.length cap5).ownBlock = some k → w.heap.size ≤ k := fun k hk => by
      rcases hat5 with e | e
      · rw [e] at hk; simp [Value.ownBlock] at hk; omega
      · rw [e] at hk; simp at hk; omega
    exact ⟨ao5, cap5, rfl, hown5, hge, ta.grown hgrow5 (fun k hk => .inr (by simp [Value.ownBlock] at hk; omega))⟩
set_option maxRecDepth 100000 in
set_option maxHeartbeats 16000000 in
theorem ve_do (w : World) (p : Nat) (M : List Nat) (i : Img) (m : Mth) (V : WV) (h : WkR w 54 p M i m V) (x : Ins) (hx : 1 ≤ x.op ∧ x.op ≤ 39 ∧ 0 ≤ x.a ∧ x.a ≤ 4294967295) (hn : namesF i m x = true) (ao : Option Addr) (c : Nat) (st : List Int) (hs : RInts w [] (.slice ao st.length c) st) (hst : st.length ≤ 8) (hts1 : (takesF i m x).length ≤ 1000) :
    Calls Tryd.prog 29 #[.pointer (some ⟨p, 0, none⟩), .agg #[.int .i64 x.op, .int .i64 x.a, .int .i64 x.b], .slice ao st.length c] w fun e w' => DoneR w w' e (doF i m x st) ∧ Tch [] w w' := by
  have hT := fun (W : World) (t : Tch [] w W) => ve_takes W p M i m V (h.tch t (by simp) (by simp)) x ⟨hx.1, hx.2.1, hx.2.2.1⟩ hn (by simp)
  have hH := fun (W : World) (t : Tch [] w W) => ve_height W p M i m V (h.tch t (by simp) (by simp)) x hx hn
  have hK := fun (W : World) (t : Tch [] w W) => ve_kinds W p M i m V (h.tch t (by simp) (by simp)) x ⟨hx.1, hx.2.1, hx.2.2.1⟩ hn
  have hL := fun (W : World) (t : Tch [] w W) => ve_leaks W p M i m V (h.tch t (by simp) (by simp)) x ⟨hx.1, hx.2.1, hx.2.2.1⟩ hn
  have hG := fun (W : World) (t : Tch [] w W) => ve_gives W p M i m V (h.tch t (by simp) (by simp)) x hx hn
  have hgl := fun l l' => gives_len i m x l l'
  have hg2 := fun l => gives_le i m x l
  obtain ⟨op, a, b⟩ := x
  clear h
  have hdd : doF i m ⟨op, a, b⟩ st = if st.length < (takesF i m ⟨op, a, b⟩).length ∨ 8 < (st.length - (takesF i m ⟨op, a, b⟩).length) + (givesF i m ⟨op, a, b⟩ (List.replicate 8 0)).length then .error 10
    else if kindsF i m ⟨op, a, b⟩ (st.drop (st.length - (takesF i m ⟨op, a, b⟩).length)) ≠ 0 then .error (kindsF i m ⟨op, a, b⟩ (st.drop (st.length - (takesF i m ⟨op, a, b⟩).length)))
    else if leaksF i m ⟨op, a, b⟩ (st.drop (st.length - (takesF i m ⟨op, a, b⟩).length)) ≠ 0 then .error (leaksF i m ⟨op, a, b⟩ (st.drop (st.length - (takesF i m ⟨op, a, b⟩).length)))
    else .ok (st.take (st.length - (takesF i m ⟨op, a, b⟩).length) ++ givesF i m ⟨op, a, b⟩ (st.drop (st.length - (takesF i m ⟨op, a, b⟩).length))) := rfl
  obtain ⟨V1, hV1⟩ : ∃ W, W = w.alloc (.cells #[.int .i64 op, .int .i64 a, .int .i64 b] 24) := ⟨_, rfl⟩
  have tV : Tch [] w V1 := by rw [hV1]; exact (Tch.refl [] w).alloc _
  obtain ⟨g, hg⟩ : ∃ g, g = w.heap.size := ⟨_, rfl⟩
  have hB : V1.heap[g]? = some (.cells #[.int .i64 op, .int .i64 a, .int .i64 b] 24 (0, 0)) := by rw [hV1, hg]; exact heap_alloc_new w _
  have hC1 := cells_of_heapW hB
  have hs1 := hs.tch tV (by simp)
  obtain ⟨D, hD⟩ : ∃ D, D = doF i m ⟨op, a, b⟩ st := ⟨_, rfl⟩
  rw [← hD] at hdd ⊢
  clear hD
  have HD := Lib.hid hdd
  clear hdd
  obtain ⟨ts, hts⟩ : ∃ ts, ts = takesF i m ⟨op, a, b⟩ := ⟨_, rfl⟩
  rw [← hts] at HD hts1
  simp only [← hts] at hT hH hK hL hG
  clear hts
  go_enter Tryd.func29, Tryd.ntmps29
  go_upto_region 1 with fail
  rw [← hV1, ← hg]
  clear hV1 hg
  have hT1 := hT V1 tV
  clear hT
  go_wp2_with (first | (refine wpList_load_agg rfl 24 (.tmp 4) rfl ⟨g, 0, none⟩ rfl #[.int .i64 op, .int .i64 a, .int .i64 b] _ hC1 Tryd.underlying24 rfl (by kernel_rfl) ?_) | fail)
  refine hT1.mono ?_
  rintro e w2 ⟨ao2, cap2, rfl, s2, t2⟩
  have T2 := tV.then t2
  have hB2 := (t2.block g (heap_lt hB) (by simp)).trans hB
  have hC2 := cells_of_heapW hB2
  clear hT1 s2 hC1
  by_cases hlt : st.length < ts.length
  · have HR := Lib.hid (show D = .error 10 by rw [HD.out, if_pos (.inl hlt)])
    have hw : decide ((st.length : Int) - (ts.length : Int) < 0) = true := by simp; omega
    clear HD hH hK hL hG hs hs1
    generalize st.length = ns at *
    generalize ts.length = nt at *
    go_wp2_with fail
    go_ret2
    exact ⟨by rw [HR.out]; rfl, T2⟩
  · obtain ⟨n, hnn⟩ : ∃ n, n = st.length - ts.length := ⟨_, rfl⟩
    have hn8 : n ≤ 8 := by omega
    have hle : ts.length ≤ 8 := by omega
    have hnl : n ≤ st.length := by omega
    have hH2 := hH w2 T2 hle
    obtain ⟨hh, hhh⟩ : ∃ hh, hh = (givesF i m ⟨op, a, b⟩ (List.replicate 8 0)).length := ⟨_, rfl⟩
    have hhh2 : hh ≤ 2 := by rw [hhh]; exact hg2 _
    rw [← hhh] at hH2 HD
    rw [← hnn] at HD
    have hsub : (st.length : Int) - (ts.length : Int) = (n : Int) := by omega
    have hnd : st.length - n = ts.length := by omega
    have hdl : (st.drop n).length = ts.length := by rw [List.length_drop]; omega
    obtain ⟨dn, hdn⟩ : ∃ dn, dn = st.drop n := ⟨_, rfl⟩
    obtain ⟨tk, htk⟩ : ∃ tk, tk = st.take n := ⟨_, rfl⟩
    have htl : tk.length = n := by rw [htk, List.length_take]; omega
    have HN := Lib.hid hnn
    have HH := Lib.hid hhh
    have hgl2 := hgl dn (List.replicate 8 0)
    rw [← hhh] at hgl2
    clear hhh hgl hH hnn hg2
    by_cases hgt : 8 < n + hh
    · have HR := Lib.hid (show D = .error 10 by rw [HD.out, if_pos (.inr hgt)])
      clear HD hK hL hG hdl hdn htk htl HN HH hgl2
      generalize st.length = ns at *
      generalize ts.length = nt at *
      go_wp2_with (first | (refine wpList_load_agg_v (by rfl) 24 (.tmp 4) rfl ⟨g, 0, none⟩ rfl #[.int .i64 op, .int .i64 a, .int .i64 b] _ hC2 Tryd.underlying24 rfl (by kernel_rfl) ?_) | fail)
      refine hH2.mono ?_
      rintro e w3 ⟨rfl, t3⟩
      clear hC2
      go_wp2_with fail
      go_ret2
      exact ⟨by rw [HR.out]; rfl, T2.then t3⟩
    · have hD3 : D = if kindsF i m ⟨op, a, b⟩ dn ≠ 0 then .error (kindsF i m ⟨op, a, b⟩ dn) else if leaksF i m ⟨op, a, b⟩ dn ≠ 0 then .error (leaksF i m ⟨op, a, b⟩ dn) else .ok (tk ++ givesF i m ⟨op, a, b⟩ dn) := by
        rw [HD.out, if_neg (by omega), ← hdn, ← htk]
      have hcutl : ∀ W, (Instr.slice 22 (.slice ao st.length c) (some (.int .i64 (n : Int))) none none).run Tryd.prog W = .ok (.slice (cutA ao n 1 c) ts.length (c - n)) W := fun W => by
        have := run_cut_l 22 3 1 Tryd.underlying22 (by kernel_rfl) (by kernel_rfl) ao st.length c n hnl W
        rw [hnd] at this
        exact this
      have hcap : st.length ≤ c := by
        rcases hs1.ex with ⟨h1, h2, _⟩ | ⟨ad, c', h1, h2, _⟩
        · omega
        · simp only [Value.slice.injEq] at h1; omega
      have hcuth : ∀ W, (Instr.slice 22 (.slice ao st.length c) none (some (.int .i64 (n : Int))) none).run Tryd.prog W = .ok (.slice ao n c) W := fun W => run_cut_h 22 3 1 Tryd.underlying22 (by kernel_rfl) (by kernel_rfl) ao st.length c n (by omega) W
      have hSd : RInts V1 [] (.slice (cutA ao n 1 c) dn.length (c - n)) dn := by
        have h1 := Src.cut_l (sz := 1) (n := n) hs1 hnl (by simp)
        rw [Nat.mul_one, show (ints st).drop n = ints (st.drop n) by simp [ints, List.map_drop], show st.length - n = (st.drop n).length by rw [List.length_drop], ← hdn] at h1
        exact h1
      have hSt : RInts V1 [] (.slice ao tk.length c) tk := by
        have h1 := Src.cut_h (sz := 1) (n := n) hs1 hnl
        rw [Nat.mul_one, show (ints st).take n = ints (st.take n) by simp [ints, List.map_take], ← htk] at h1
        unfold RInts
        rw [htl]
        exact h1
      rw [← hdn] at hdl
      generalize cutA ao n 1 c = ad at *
      generalize c - n = cd at *
      have H3 := Lib.hid hD3
      have HTL := Lib.hid htl
      have HDL := Lib.hid hdl
      have HG2 := Lib.hid hgl2
      have hmx : dn.length ≤ 9223372036854775807 := by omega
      have hKx := fun W t (r : RInts W [] (.slice ad dn.length cd) dn) => hK W t ad cd dn r (by omega) hmx
      have hLx := fun W t (r : RInts W [] (.slice ad dn.length cd) dn) => hL W t ad cd dn r (by omega) hmx
      have hGx := fun W t (r : RInts W [] (.slice ad dn.length cd) dn) => hG W t ad cd dn r (by omega)
      have hCx := fun W (r : RInts W [] (.slice ao tk.length c) tk) => ve_CloneO W ao c tk r (by omega)
      rw [hdl] at hKx hLx hGx
      rw [htl] at hCx
      clear hD3 HD hK hL hG hdn htk htl HN HH hgl2 hdl hmx hs1 hs
      generalize st.length = ns at *
      generalize ts.length = nt at *
      go_wp2_with (first | (refine wpList_load_agg_v (by rfl) 24 (.tmp 4) rfl ⟨g, 0, none⟩ rfl #[.int .i64 op, .int .i64 a, .int .i64 b] _ hC2 Tryd.underlying24 rfl (by kernel_rfl) ?_) | fail)
      refine hH2.mono ?_
      rintro e w3 ⟨rfl, t3⟩
      have hB3 := (t3.block g (heap_lt hB2) (by simp)).trans hB2
      have hC3 := cells_of_heapW hB3
      have T3 := T2.then t3
      have hSd3 : RInts w3 [] (.slice ad nt cd) dn := by have := hSd.tch (t2.then t3) (by simp); rw [HDL.out] at this; exact this
      have hK3 := hKx w3 T3 hSd3
      clear hC2 hKx
      go_wp2_with (first | (refine wpList_load_agg rfl 24 (.tmp 4) rfl ⟨g, 0, none⟩ rfl #[.int .i64 op, .int .i64 a, .int .i64 b] _ hC3 Tryd.underlying24 rfl (by kernel_rfl) ?_) | fail)
      obtain ⟨kk, hkk⟩ : ∃ kk, kk = kindsF i m ⟨op, a, b⟩ dn := ⟨_, rfl⟩
      rw [← hkk] at hK3
      refine hK3.mono ?_
      rintro e w4 ⟨rfl, t4⟩
      have hB4 := (t4.block g (heap_lt hB3) (by simp)).trans hB3
      have hC4 := cells_of_heapW hB4
      have T4 := T3.then t4
      clear hC3 hK3
      have hD4 := H3.out
      rw [← hkk] at hD4
      clear hkk
      by_cases hk0 : kk = 0
      · subst hk0
        rw [if_neg (by simp)] at hD4
        have H4 := Lib.hid hD4
        clear hD4 H3
        have hSd4 := hSd3.tch t4 (by simp)
        have hL4 := hLx w4 T4 hSd4
        obtain ⟨kl, hkl⟩ : ∃ kl, kl = leaksF i m ⟨op, a, b⟩ dn := ⟨_, rfl⟩
        rw [← hkl] at hL4
        go_wp2_with (first | (refine wpList_load_agg rfl 24 (.tmp 4) rfl ⟨g, 0, none⟩ rfl #[.int .i64 op, .int .i64 a, .int .i64 b] _ hC4 Tryd.underlying24 rfl (by kernel_rfl) ?_) | fail)
        refine hL4.mono ?_
        rintro e w5 ⟨rfl, t5⟩
        have hB5 := (t5.block g (heap_lt hB4) (by simp)).trans hB4
        have T5 := T4.then t5
        clear hC4 hL4
        have hD5 := H4.out
        rw [← hkl] at hD5
        clear hkl
        by_cases hl0 : kl = 0
        · subst hl0
          rw [if_neg (by simp)] at hD5
          have H5 := Lib.hid hD5
          clear hD5 H4
          have hSd5 := hSd4.tch t5 (by simp)
          have hSt5 : RInts w5 [] (.slice ao n c) tk := by have := hSt.tch ((t2.then t3).then (t4.then t5)) (by simp); rw [HTL.out] at this; exact this
          obtain ⟨gl, hgl⟩ : ∃ gl, gl = givesF i m ⟨op, a, b⟩ dn := ⟨_, rfl⟩
          rw [← hgl] at H5 HG2
          simp only [← hgl] at hGx
          clear hgl hLx hSd hSt hSd3 hSd4
          have xq0 : w5.cell? ⟨g, 0, none⟩ = some (.int .i64 op) := by simp [World.cell?, hB5]
          have xq1 : w5.cell? ⟨g, 1, none⟩ = some (.int .i64 a) := by simp [World.cell?, hB5]
          have xq2 : w5.cell? ⟨g, 2, none⟩ = some (.int .i64 b) := by simp [World.cell?, hB5]
          obtain ⟨i0, hi0, hz00, hz01, hz02⟩ := info_parts info_intC
          go_upto_region 11 with fail
          refine wp_region_held_drew (S := fun w' => w'.cell? ⟨g, 0, none⟩ = some (.int .i64 op) ∧ w'.cell? ⟨g, 1, none⟩ = some (.int .i64 a) ∧ w'.cell? ⟨g, 2, none⟩ = some (.int .i64 b)) (by kernel_rfl) ⟨xq0, xq1, xq2⟩ (fun hHeld => ?_)
          have rD : Tch [] w5 w5.drew := (Tch.refl [] w5).drew
          obtain ⟨z0, hz0⟩ : ∃ z, z = w5.drew := ⟨_, rfl⟩
          rw [← hz0] at rD hHeld ⊢
          clear hz0
          refine wpAnyH_take (i := 0) (v := ?_) rfl (by kernel_rfl) (by kernel_rfl) (by kernel_rfl) (fun _ _ _ h => h) (Or.inl ⟨by rfl, ?_⟩) (by assumption) ?_
          rotate_left
          · (intro w hSw; (try dsimp only at hSw); go_simp; try with_reducible rfl)
          try simp only [Act.put, List.setIfInBounds_toArray, List.set_cons_zero, List.set_cons_succ]
          refine wpAnyH_take (i := 1) (v := ?_) rfl (by kernel_rfl) (by kernel_rfl) (by kernel_rfl) (fun _ _ _ h => h) (Or.inl ⟨by rfl, ?_⟩) (by assumption) ?_
          rotate_left
          · (intro w hSw; (try dsimp only at hSw); go_simp; try with_reducible rfl)
          try simp only [Act.put, List.setIfInBounds_toArray, List.set_cons_zero, List.set_cons_succ]
          refine wpAnyH_take (i := 2) (v := ?_) rfl (by kernel_rfl) (by kernel_rfl) (by kernel_rfl) (fun _ _ _ h => h) (Or.inl ⟨by rfl, ?_⟩) (by assumption) ?_
          rotate_left
          · (intro w hSw; (try dsimp only at hSw); go_simp; try with_reducible rfl)
          try simp only [Act.put, List.setIfInBounds_toArray, List.set_cons_zero, List.set_cons_succ]
          refine wpAnyH_take (i := 4) (v := ?_) rfl (by kernel_rfl) (by kernel_rfl) (by kernel_rfl) (fun _ _ _ h => h) (Or.inl ⟨by rfl, ?_⟩) (by assumption) ?_
          rotate_left
          · (intro w hSw; (try dsimp only at hSw); go_simp; try with_reducible rfl)
          try simp only [Act.put, List.setIfInBounds_toArray, List.set_cons_zero, List.set_cons_succ]
          refine wpAnyH_take (i := 5) (v := ?_) rfl (by kernel_rfl) (by kernel_rfl) (by kernel_rfl) (fun _ _ _ h => h) (Or.inl ⟨by rfl, ?_⟩) (by assumption) ?_
          rotate_left
          · (intro w hSw; (try dsimp only at hSw); go_simp; try with_reducible rfl)
          try simp only [Act.put, List.setIfInBounds_toArray, List.set_cons_zero, List.set_cons_succ]
          refine wpAnyH_take (i := 6) (v := ?_) rfl (by kernel_rfl) (by kernel_rfl) (by kernel_rfl) (fun _ _ _ h => h) (Or.inl ⟨by rfl, ?_⟩) (by assumption) ?_
          rotate_left
          · (intro w hSw; (try dsimp only at hSw); go_simp; try with_reducible rfl)
          try simp only [Act.put, List.setIfInBounds_toArray, List.set_cons_zero, List.set_cons_succ]
          refine wpAnyH_ready (rs := [3]) (by kernel_rfl) (by simp) ?_
          refine AllReadyH.cons rfl (fun K hK => ?_) AllReadyH.nil
          go_simp
          go_at_call 45
          refine (hCx z0 (hSt5.tch rD (by simp))).mono ?_
          rintro e w6 ⟨ao6, cap6, rfl, own6, ge6, t6⟩
          have T6 := rD.then t6
          try dsimp only
          clear hCx
          refine hK.out _ _ (⟨(T6.cell (cell_lt xq0) (by simp)).trans xq0, (T6.cell (cell_lt xq1) (by simp)).trans xq1, (T6.cell (cell_lt xq2) (by simp)).trans xq2⟩) (fun hHeld => ?_)
          clear hK K
          try simp only [Act.put, List.setIfInBounds_toArray, List.set_cons_zero, List.set_cons_succ]
          refine wpAnyH_ready (rs := [7]) (by kernel_rfl) (by simp) ?_
          refine AllReadyH.cons rfl (fun K hK => ?_) AllReadyH.nil
          go_simp
          go_at_call 52
          refine (hGx w6 (T5.then T6) (hSd5.tch T6 (by simp))).mono ?_
          rintro e w7 ⟨ao7, cap7, rfl, s7, t7⟩
          have T7 := T6.then t7
          clear hGx
          refine hK.out _ _ (⟨(T7.cell (cell_lt xq0) (by simp)).trans xq0, (T7.cell (cell_lt xq1) (by simp)).trans xq1, (T7.cell (cell_lt xq2) (by simp)).trans xq2⟩) (fun hHeld => ?_)
          clear hK K
          try simp only [Act.put, List.setIfInBounds_toArray, List.set_cons_zero, List.set_cons_succ]
          refine wpAnyH_ready (rs := [8]) (by kernel_rfl) (by simp) ?_
          refine AllReadyH.cons rfl (fun K hK => ?_) AllReadyH.nil
          have own7 := ownsRow_tch own6 t7 (by simp)
          have z05 := rD.size
          have z67 := t7.size
          refine step_append_any _ rfl (.tmp 49) (.tmp 53) 22 rfl 3 i0 (.int .i64 0) 1 8 Tryd.underlying22 hi0 hz00 hz01 hz02 rfl (by decide) (.slice ao6 n cap6) n (ints tk) rfl own7 [] (.slice ao7 gl.length cap7) gl.length (ints gl) rfl s7 (by simp) (ints_one gl) (by rw [HG2.out]; omega) ?_
          intro ao8 cap8 w8 own8 gr8 at8
          change K (Act.put _ (some 54) _) _
          have T8 : Tch [] w5 w8 := T7.grown gr8 (fun k hk => .inr (by have := ge6 k hk; omega))
          have ge8 : ∀ k, (Value.slice ao8 (n + gl.length) cap8).ownBlock = some k → w5.heap.size ≤ k := fun k hk => by
            rcases at8 with e | e
            · rw [e] at hk; have := ge6 k hk; omega
            · rw [e] at hk; simp at hk; have := T7.size; omega
          refine hK.out _ _ (⟨(T8.cell (cell_lt xq0) (by simp)).trans xq0, (T8.cell (cell_lt xq1) (by simp)).trans xq1, (T8.cell (cell_lt xq2) (by simp)).trans xq2⟩) (fun hHeld => ?_)
          clear hK K
          try simp only [Act.put, List.setIfInBounds_toArray, List.set_cons_zero, List.set_cons_succ]
          refine wpAnyH_take (i := 9) (v := ?_) rfl (by kernel_rfl) (by kernel_rfl) (by kernel_rfl) (fun _ _ _ h => h) (Or.inl ⟨by rfl, ?_⟩) (by assumption) ?_
          rotate_left
          · (intro w hSw; (try dsimp only at hSw); go_simp; try with_reducible rfl)
          try simp only [Act.put, List.getElem_toArray, List.getElem_cons_succ, List.getElem_cons_zero, List.setIfInBounds_toArray, List.set_cons_zero, List.set_cons_succ]
          refine wpAnyH_take (i := 10) (v := ?_) rfl (by kernel_rfl) (by kernel_rfl) (by kernel_rfl) (fun _ _ _ h => h) (Or.inl ⟨by rfl, ?_⟩) (by assumption) ?_
          rotate_left
          · (intro w hSw; (try dsimp only at hSw); go_simp; try with_reducible rfl)
          try simp only [Act.put, List.getElem_toArray, List.getElem_cons_succ, List.getElem_cons_zero, List.setIfInBounds_toArray, List.set_cons_zero, List.set_cons_succ]
          refine wpAnyH_done (by kernel_rfl) ?_ _
          go_wp2_with fail
          go_ret2
          have hll : (tk ++ gl).length = n + gl.length := by rw [List.length_append, HTL.out]
          refine ⟨?_, T5.then T8⟩
          rw [H5.out]
          refine ⟨ao8, cap8, (by rw [hll]; rfl), fun M hM => ?_⟩
          unfold RInts
          rw [hll, ints_append]
          exact src_of_owns own8 M (fun k hk hx => by have := ge8 k hk; have := hM k hx; have := T5.size; omega)
        · have hb : (kl != 0) = true := by simpa using hl0
          rw [if_pos hl0] at hD5
          have HR := Lib.hid hD5
          clear hD5 hl0 H4
          go_wp2_with fail
          go_ret2
          exact ⟨by rw [HR.out]; rfl, T5⟩
      · have hb : (kk != 0) = true := by simpa using hk0
        rw [if_pos hk0] at hD4
        have HR := Lib.hid hD4
        clear hD4 hk0 H3
        go_wp2_with fail
        go_ret2
        exact ⟨by rw [HR.out]; rfl, T4⟩
end Go.Proofs.YtpabkjjonbhdeaaDoor
