/-
  CONTRACTS: image: an applet's parts, read: strings, imports, methods. Conditions: the reader's bytes lie in blocks that nobody turns.
-/
import Derived.Test.YtapephelfijcbaaGreatDoorHImq
import Derived.Test.YtapephelfijcbaaGreatDoorHImP
import Derived.Deep.RegionHeld3
namespace Go.Tcn
open Go.RowKit
set_option linter.unusedVariables false
set_option linter.unusedSimpArgs false
end Go.Tcn
namespace Go.Proofs.YtapephelfijcbaaGreatDoor
open Go.RowKit Go.Tcn
set_option linter.unusedVariables false
set_option linter.unusedSimpArgs false
theorem short_got {l : List Int} {k : Bool} {wr : Int} {st : St} (hs : st = .ok l ∧ k = false ∧ wr = 0 ∨ ∃ e, st = .error e ∧ e ≠ 0 ∧ effE wr k = e) (hb : Byt l) :
    ∃ st' : St, Got strP st (unnums (shOut l k)) st' ∧ (st' = .ok (shRest l k) ∧ (!shOk l k) = false ∧ wr = 0 ∨ ∃ e, st' = .error e ∧ e ≠ 0 ∧ effE wr (!shOk l k) = e) := by
  obtain ⟨v0, v1, st1, g1, h1⟩ := u8_got hs hb
  have hbr : Byt (rdRest l k 1) := by unfold rdRest; split; exact hb.drop _; exact hb.drop l.length |> fun _ => Byt.nil
  rcases h1 with ⟨rfl, hk, hw⟩ | ⟨e, rfl, he, hf⟩
  · obtain ⟨v, hv⟩ : ∃ v, v = beN (rdOut l k 1) := ⟨_, rfl⟩
    obtain ⟨r, hr⟩ : ∃ r, r = rdRest l k 1 := ⟨_, rfl⟩
    rw [← hv, ← hr] at g1
    rw [← hv] at v0 v1
    have e1 : shOut l k = rdOut r false v := by unfold shOut; rw [← hv, ← hr, hk]
    have e2 : shRest l k = rdRest r false v := by unfold shRest; rw [← hv, ← hr, hk]
    have e3 : shOk l k = rdOk r false v := by unfold shOk; rw [← hv, ← hr, hk]
    rw [e1, e2, e3]
    by_cases hle : v.toNat ≤ r.length
    · have hok : rdOk r false v = true := by simp [rdOk]; omega
      refine ⟨.ok (rdRest r false v), Got.bind g1 (Got.bind (st1 := .ok (rdRest r false v)) (x := rdOut r false v) ?_ (Got.ret _ _)), .inl ⟨rfl, by rw [hok]; rfl, hw⟩⟩
      simp only [Got, rawP, if_pos hle]
      unfold rdOut rdRest
      rw [if_pos hok, if_pos hok]
      exact ⟨rfl, rfl⟩
    · have hok : rdOk r false v = false := by simp [rdOk]; omega
      refine ⟨.error 7, Got.bind g1 (Got.bind (st1 := .error 7) (x := rdOut r false v) ?_ (Got.err0 _ _ _)), .inr ⟨7, rfl, by decide, by rw [hok, hw]; rfl⟩⟩
      simp only [Got, rawP, if_neg hle]
  · refine ⟨.error e, Got.bind g1 (Got.err0 _ _ _), .inr ⟨e, rfl, he, ?_⟩⟩
    by_cases hw : wr = 0
    · subst hw
      cases hk : rdOk l k 1
      · unfold shOk
        rw [hk]
        have : rdOk (rdRest l k 1) (!false) (beN (rdOut l k 1)) = false := by simp [rdOk]
        rw [this]
        rw [hk] at hf
        exact hf
      · rw [hk] at hf
        exact absurd hf.symm he
    · rw [← hf]
      unfold effE
      rw [if_pos hw, if_pos hw]
theorem shRest_le (l : List Int) (k : Bool) : (shRest l k).length ≤ l.length := Nat.le_trans (rdRest_le' _ _ _) (rdRest_le' _ _ _)
end Go.Proofs.YtapephelfijcbaaGreatDoor
namespace Go.Tcn
open Go.RowKit
set_option linter.unusedVariables false
set_option linter.unusedSimpArgs false
/-- Four cells of a block that may be written. -/
structure B4 (w : World) (g : Nat) (x0 x1 x2 x3 : Value) : Prop where
  c0 : w.cell? ⟨g, 0, none⟩ = some x0
  c1 : w.cell? ⟨g, 1, none⟩ = some x1
  c2 : w.cell? ⟨g, 2, none⟩ = some x2
  c3 : w.cell? ⟨g, 3, none⟩ = some x3
  f0 : w.frozen? ⟨g, 0, none⟩ = false
  f1 : w.frozen? ⟨g, 1, none⟩ = false
  f2 : w.frozen? ⟨g, 2, none⟩ = false
  f3 : w.frozen? ⟨g, 3, none⟩ = false
theorem B4.tch {w w' : World} {L : List Nat} {g : Nat} {x0 x1 x2 x3 : Value} (h : B4 w g x0 x1 x2 x3) (t : Tch L w w') (hg : g ∉ L) : B4 w' g x0 x1 x2 x3 :=
  ⟨by rw [t.cell (cell_lt h.c0) hg]; exact h.c0, by rw [t.cell (cell_lt h.c1) hg]; exact h.c1, by rw [t.cell (cell_lt h.c2) hg]; exact h.c2, by rw [t.cell (cell_lt h.c3) hg]; exact h.c3,
    by rw [t.frozen (cell_lt h.c0) hg]; exact h.f0, by rw [t.frozen (cell_lt h.c1) hg]; exact h.f1, by rw [t.frozen (cell_lt h.c2) hg]; exact h.f2, by rw [t.frozen (cell_lt h.c3) hg]; exact h.f3⟩
theorem B4.new (w : World) (x0 x1 x2 x3 : Value) (T : TypeId) : B4 (w.alloc (.cells #[x0, x1, x2, x3] T)) w.heap.size x0 x1 x2 x3 := ⟨by simp [go_sem], by simp [go_sem], by simp [go_sem], by simp [go_sem], by simp [go_sem], by simp [go_sem], by simp [go_sem], by simp [go_sem]⟩
end Go.Tcn
namespace Go.Proofs.YtapephelfijcbaaGreatDoor
open Go.RowKit Go.Tcn
set_option linter.unusedVariables false
set_option linter.unusedSimpArgs false
set_option maxRecDepth 100000 in
set_option maxHeartbeats 4000000 in
theorem rd_Short (w : World) (p q : Nat) (L : List Nat) (st : St) (h : PSt 80 116 w p q L st) (M : List Nat) (hM : ∀ i ∈ M, i < w.heap.size) :
    Calls Tryz.prog 48 #[.pointer (some ⟨q, 0, none⟩)] w fun e w' => ∃ ao cap b st', e = .returned (.slice ao b.length cap) ∧ Src w' M (.slice ao b.length cap) b.length (bys b) ∧ Got strP st (unnums b) st' ∧ PSt 80 116 w' p q L st' ∧ Tch [q] w w' := by
  obtain ⟨l, k, wr, h1, h2, h3, h4, h5⟩ := h.ex
  obtain ⟨st', g3, g4⟩ := short_got h5 h2.byt
  refine (oct_RShort w q L l k h2 (by omega)).mono ?_
  rintro e w' ⟨ao, cap, rfl, ho, hn, hr, t⟩
  have := shRest_le l k
  refine ⟨ao, cap, _, st', rfl, src_of_owns ho M (fun g hg hx => ?_), g3, ⟨_, _, wr, by rw [t.block p (heap_lt h1) (by simpa using h4)]; exact h1, hr, by omega, h4, g4⟩, t⟩
  have := hM g hx
  have := hn g hg
  omega
theorem im_plist' (w : World) (p q : Nat) (L : List Nat) (st : St) (h : PSt 80 116 w p q L st) (hp : p ∈ L) (M : List Nat) (hM : ∀ i ∈ M, i < w.heap.size) :
    Calls Tryz.prog 49 #[.pointer (some ⟨p, 0, none⟩)] w fun e w' => ∃ ao cap xs st', e = .returned (.slice ao xs.length cap) ∧ RInts w' M (.slice ao xs.length cap) xs ∧ Got (cntP u8P) st xs st' ∧ xs.length ≤ 255 ∧ PSt 80 116 w' p q L st' ∧ Tch [p, q] w w' :=
  (im_plist w p q L st h hp M hM).mono fun e w' ⟨v, xs, st', he, h1, h2⟩ => by
    obtain ⟨ao, cap, hv⟩ := Src.form h1
    exact ⟨ao, cap, xs, st', by rw [he, hv], hv ▸ h1, h2⟩
set_option maxRecDepth 100000 in
set_option maxHeartbeats 8000000 in
theorem im_imported (w0 : World) (p q : Nat) (L : List Nat) (st : St) (h : PSt 80 116 w0 p q L st) (hp : p ∈ L) (M : List Nat) (hM0 : ∀ i ∈ M, i < w0.heap.size) :
    Calls Tryz.prog 52 #[.pointer (some ⟨p, 0, none⟩)] w0 fun e w' => ∃ x vp st', e = .returned (.agg #[.string ⟨x.name.toArray⟩, .int .i64 x.exp, vp, .int .i64 x.result]) ∧ RInts w' (p :: q :: M) vp x.params ∧ Got impP st x st' ∧ x.params.length ≤ 255 ∧ PSt 80 116 w' p q L st' ∧ Tch [p, q] w0 w' := by
  obtain ⟨hl1, hl2, hl3⟩ := h.lt
  obtain ⟨w, hwd⟩ : ∃ w, w = w0.alloc (.cells #[.string ⟨#[]⟩, .int .i64 0, .slice none 0 0, .int .i64 0] 45) := ⟨_, rfl⟩
  have tw : Tch [] w0 w := by rw [hwd]; exact (Tch.refl [] w0).alloc _
  have sw : w.heap.size = w0.heap.size + 1 := by rw [hwd]; simp
  have B00 : B4 w w0.heap.size (.string ⟨#[]⟩) (.int .i64 0) (.slice none 0 0) (.int .i64 0) := by rw [hwd]; exact B4.new _ _ _ _ _ _
  have hM : ∀ i ∈ M, i < w.heap.size := fun i hi => by have := hM0 i hi; omega
  have P0 : PSt 80 116 w.drew p q (w0.heap.size :: L) st := ((h.mono (L' := w0.heap.size :: L) (fun i hi hlt => by
    rcases List.mem_cons.1 hi with hi | hi
    · omega
    · exact hi)).tch tw (by simp) (by simp) (by simp)).tch (Tch.refl [] w).drew (by simp) (by simp) (by simp)
  have T0 : Tch [p, q] w w.drew := (Tch.refl _ w).drew
  have B0 : B4 w w0.heap.size (.string ⟨#[]⟩) (.int .i64 0) (.slice none 0 0) (.int .i64 0) := B00
  have c0 := P0.cell
  go_enter Tryz.func52, Tryz.ntmps52
  go_upto_region 1 with fail
  rw [← hwd]
  clear hwd
  refine wp_region_held_drew (S := fun w' => w'.cell? ⟨p, 0, none⟩ = some (.pointer (some ⟨q, 0, none⟩))) (by kernel_rfl) c0 (fun hHeld => ?_)
  clear c0
  refine wpAnyH_take (i := 0) (v := ?_) rfl (by kernel_rfl) (by kernel_rfl) (by kernel_rfl) (fun _ _ _ h => h) (Or.inl ⟨by rfl, ?_⟩) (by assumption) ?_
  rotate_left
  · (intro w hSw; (try dsimp only at hSw); go_simp; try with_reducible rfl)
  try simp only [Act.put, List.setIfInBounds_toArray, List.set_cons_zero, List.set_cons_succ]
  refine wpAnyH_take (i := 1) (v := ?_) rfl (by kernel_rfl) (by kernel_rfl) (by kernel_rfl) (fun _ _ _ h => h) (Or.inl ⟨by rfl, ?_⟩) (by assumption) ?_
  rotate_left
  · (intro w hSw; (try dsimp only at hSw); go_simp; try with_reducible rfl)
  try simp only [Act.put, List.setIfInBounds_toArray, List.set_cons_zero, List.set_cons_succ]
  refine wpAnyH_take (i := 2) (v := ?_) rfl (by kernel_rfl) (by kernel_rfl) (by kernel_rfl) (fun _ _ _ h => h) (Or.inl ⟨by rfl, ?_⟩) (by assumption) ?_
  rotate_left
  · (intro w hSw; (try dsimp only at hSw); go_simp; try with_reducible rfl)
  try simp only [Act.put, List.setIfInBounds_toArray, List.set_cons_zero, List.set_cons_succ]
  refine wpAnyH_take (i := 3) (v := ?_) rfl (by kernel_rfl) (by kernel_rfl) (by kernel_rfl) (fun _ _ _ h => h) (Or.inl ⟨by rfl, ?_⟩) (by assumption) ?_
  rotate_left
  · (intro w hSw; (try dsimp only at hSw); go_simp; try with_reducible rfl)
  try simp only [Act.put, List.setIfInBounds_toArray, List.set_cons_zero, List.set_cons_succ]
  refine wpAnyH_take (i := 6) (v := ?_) rfl (by kernel_rfl) (by kernel_rfl) (by kernel_rfl) (fun _ _ _ h => h) (Or.inl ⟨by rfl, ?_⟩) (by assumption) ?_
  rotate_left
  · (intro w hSw; (try dsimp only at hSw); go_simp; try with_reducible rfl)
  try simp only [Act.put, List.setIfInBounds_toArray, List.set_cons_zero, List.set_cons_succ]
  refine wpAnyH_take (i := 7) (v := ?_) rfl (by kernel_rfl) (by kernel_rfl) (by kernel_rfl) (fun _ _ _ h => h) (Or.inl ⟨by rfl, ?_⟩) (by assumption) ?_
  rotate_left
  · (intro w hSw; (try dsimp only at hSw); go_simp; try with_reducible rfl)
  try simp only [Act.put, List.setIfInBounds_toArray, List.set_cons_zero, List.set_cons_succ]
  refine wpAnyH_take (i := 8) (v := ?_) rfl (by kernel_rfl) (by kernel_rfl) (by kernel_rfl) (fun _ _ _ h => h) (Or.inl ⟨by rfl, ?_⟩) (by assumption) ?_
  rotate_left
  · (intro w hSw; (try dsimp only at hSw); go_simp; try with_reducible rfl)
  try simp only [Act.put, List.setIfInBounds_toArray, List.set_cons_zero, List.set_cons_succ]
  refine wpAnyH_take (i := 9) (v := ?_) rfl (by kernel_rfl) (by kernel_rfl) (by kernel_rfl) (fun _ _ _ h => h) (Or.inl ⟨by rfl, ?_⟩) (by assumption) ?_
  rotate_left
  · (intro w hSw; (try dsimp only at hSw); go_simp; try with_reducible rfl)
  try simp only [Act.put, List.setIfInBounds_toArray, List.set_cons_zero, List.set_cons_succ]
  refine wpAnyH_take (i := 11) (v := ?_) rfl (by kernel_rfl) (by kernel_rfl) (by kernel_rfl) (fun _ _ _ h => h) (Or.inl ⟨by rfl, ?_⟩) (by assumption) ?_
  rotate_left
  · (intro w hSw; (try dsimp only at hSw); go_simp; try with_reducible rfl)
  try simp only [Act.put, List.setIfInBounds_toArray, List.set_cons_zero, List.set_cons_succ]
  refine wpAnyH_take (i := 13) (v := ?_) rfl (by kernel_rfl) (by kernel_rfl) (by kernel_rfl) (fun _ _ _ h => h) (Or.inl ⟨by rfl, ?_⟩) (by assumption) ?_
  rotate_left
  · (intro w hSw; (try dsimp only at hSw); go_simp; try with_reducible rfl)
  try simp only [Act.put, List.setIfInBounds_toArray, List.set_cons_zero, List.set_cons_succ]
  refine wpAnyH_take (i := 14) (v := ?_) rfl (by kernel_rfl) (by kernel_rfl) (by kernel_rfl) (fun _ _ _ h => h) (Or.inl ⟨by rfl, ?_⟩) (by assumption) ?_
  rotate_left
  · (intro w hSw; (try dsimp only at hSw); go_simp; try with_reducible rfl)
  try simp only [Act.put, List.setIfInBounds_toArray, List.set_cons_zero, List.set_cons_succ]
  refine wpAnyH_take (i := 15) (v := ?_) rfl (by kernel_rfl) (by kernel_rfl) (by kernel_rfl) (fun _ _ _ h => h) (Or.inl ⟨by rfl, ?_⟩) (by assumption) ?_
  rotate_left
  · (intro w hSw; (try dsimp only at hSw); go_simp; try with_reducible rfl)
  try simp only [Act.put, List.setIfInBounds_toArray, List.set_cons_zero, List.set_cons_succ]
  refine wpAnyH_take (i := 16) (v := ?_) rfl (by kernel_rfl) (by kernel_rfl) (by kernel_rfl) (fun _ _ _ h => h) (Or.inl ⟨by rfl, ?_⟩) (by assumption) ?_
  rotate_left
  · (intro w hSw; (try dsimp only at hSw); go_simp; try with_reducible rfl)
  try simp only [Act.put, List.setIfInBounds_toArray, List.set_cons_zero, List.set_cons_succ]
  refine wpAnyH_ready (rs := [4]) (by kernel_rfl) (by simp) ?_
  refine AllReadyH.cons rfl (fun K hK => ?_) AllReadyH.nil
  go_simp
  go_at_call 48
  refine (rd_Short _ p q _ st P0 [p, q] (by simp; omega)).mono ?_
  rintro e y1 ⟨ao, cap, b, st1, rfl, S1, G1, P1, t1⟩
  have T1 : Tch [p, q] w y1 := T0.trans t1 (fun _ _ x => x) (fun i _ hi => by simp at hi ⊢; exact .inr hi)
  refine hK.out _ _ (P1.cell) (fun hHeld => ?_)
  clear hK K
  try simp only [Act.put, List.setIfInBounds_toArray, List.set_cons_zero, List.set_cons_succ]
  refine wpAnyH_ready (rs := [5, 10]) (by kernel_rfl) (by simp) ?_
  refine AllReadyH.cons rfl (fun K hK => ?_) (AllReadyH.cons rfl (fun K hK => ?_) AllReadyH.nil)
  · have hcs := run_str (P := Tryz.prog) 30 5 9 Tryz.underlying30 Tryz.underlying5 Tryz.underlying9 S1
    go_simp
    refine hK.out _ _ (P1.cell) (fun hHeld => ?_)
    clear hK K
    try simp only [Act.put, List.setIfInBounds_toArray, List.set_cons_zero, List.set_cons_succ]
    refine wpAnyH_ready (rs := [10]) (by kernel_rfl) (by simp) ?_
    refine AllReadyH.cons rfl (fun K hK => ?_) AllReadyH.nil
    go_simp
    go_at_call 94
    refine (rd_U8 _ p q _ st1 P1).mono ?_
    rintro e y2 ⟨ex, rfl, ex0, ex1, st2, G2, P2, t2⟩
    have T2 : Tch [p, q] w y2 := T1.trans t2 (fun _ _ x => x) (fun i _ hi => by simp at hi ⊢; exact .inr hi)
    refine hK.out _ _ (P2.cell) (fun hHeld => ?_)
    clear hK K
    try simp only [Act.put, List.setIfInBounds_toArray, List.set_cons_zero, List.set_cons_succ]
    refine wpAnyH_ready (rs := [12]) (by kernel_rfl) (by simp) ?_
    refine AllReadyH.cons rfl (fun K hK => ?_) AllReadyH.nil
    go_simp
    go_at_call 49
    refine (im_plist' _ p q _ st2 P2 (List.mem_cons_of_mem _ hp) (p :: q :: w0.heap.size :: M) (fun i hi => by have := T2.size; simp at hi; rcases hi with hi | hi | hi | hi; omega; omega; omega; have := hM i hi; omega)).mono ?_
    rintro e y3 ⟨ap, cp, ps, st3, rfl, ip, G3, hl3, P3, t3⟩
    have T3 : Tch [p, q] w y3 := T2.trans t3 (fun _ _ x => x) (fun _ _ x => x)
    refine hK.out _ _ (P3.cell) (fun hHeld => ?_)
    clear hK K
    try simp only [Act.put, List.setIfInBounds_toArray, List.set_cons_zero, List.set_cons_succ]
    refine wpAnyH_ready (rs := [17]) (by kernel_rfl) (by simp) ?_
    refine AllReadyH.cons rfl (fun K hK => ?_) AllReadyH.nil
    go_simp
    go_at_call 94
    refine (rd_U8 _ p q _ st3 P3).mono ?_
    rintro e y4 ⟨re, rfl, re0, re1, st4, G4, P4, t4⟩
    have T4 : Tch [p, q] w y4 := T3.trans t4 (fun _ _ x => x) (fun i _ hi => by simp at hi ⊢; exact .inr hi)
    have ip4 := ip.tch t4 (fun i hi _ => by simp at hi ⊢; simp [hi])
    refine hK.out _ _ (P4.cell) (fun hHeld => ?_)
    clear hK K
    try simp only [Act.put, List.setIfInBounds_toArray, List.set_cons_zero, List.set_cons_succ]
    refine wpAnyH_ready (rs := [18]) (by kernel_rfl) (by simp) ?_
    refine AllReadyH.cons rfl (fun K hK => ?_) AllReadyH.nil
    go_simp
    refine hK.out _ _ (P4.cell) (fun hHeld => ?_)
    clear hK K
    try simp only [Act.put, List.setIfInBounds_toArray, List.set_cons_zero, List.set_cons_succ]
    have B4w := B0.tch T4 (by simp; omega)
    obtain ⟨b0, b1, b2, b3, u0, u1, u2, u3⟩ := B4w
    have hr0 : w0.heap.size ∉ [p, q] := by simp; omega
    have TF : Tch [w0.heap.size] y4 ((((y4.setCell ⟨w0.heap.size, 0, none⟩ (.string (strOfNums b))).setCell ⟨w0.heap.size, 1, none⟩ (.int .i64 ex)).setCell ⟨w0.heap.size, 2, none⟩ (.slice ap ps.length cp)).setCell ⟨w0.heap.size, 3, none⟩ (.int .i64 re)) := (((((Tch.refl [w0.heap.size] y4).setCell (.inl (by simp)) _).setCell (.inl (by simp)) _).setCell (.inl (by simp)) _).setCell (.inl (by simp)) _)
    have c5 := (TF.cell (p := ⟨p, 0, none⟩) P4.lt.1 (by simp; omega)).trans P4.cell
    refine wpAnyH_ready (rs := [19]) (by kernel_rfl) (by simp) ?_
    refine AllReadyH.cons rfl (fun K hK => ?_) AllReadyH.nil
    go_simp
    refine hK.out _ _ (c5) (fun hHeld => ?_)
    clear hK K
    try simp only [Act.put, List.setIfInBounds_toArray, List.set_cons_zero, List.set_cons_succ]
    refine wpAnyH_done (by kernel_rfl) ?_ _
    go_wp2_with fail
    refine bodyPost_ret (v := .agg #[.string (strOfNums b), .int .i64 ex, .slice ap ps.length cp, .int .i64 re]) (by simp [results, Tryz.results52, go_sem, b0, b1, b2, b3, u0, u1, u2, u3]) rfl ?_
    exact ⟨⟨unnums b, ex, ps, re⟩, _, st4, rfl, (ip4.tch TF (fun i hi _ => by simp at hi; simp [hi])).mono (fun i hi _ => by simp at hi ⊢; rcases hi with hi | hi | hi <;> simp [hi]), Got.bind G1 (Got.bind G2 (Got.bind G3 (Got.bind G4 (Got.ret _ _)))), hl3, (P4.tch TF (by simp; omega) (by simp; omega) (fun i hi _ => by simp at hi; simp [hi])).mono (fun i hi _ => List.mem_cons_of_mem _ hi), ((tw.nil (L := [p, q])).trans T4 (fun _ _ x => x) (fun _ _ x => x)).trans TF (fun _ _ x => x) (fun i hlt hi => by simp at hi; omega)⟩
  · go_simp
    go_at_call 94
    refine (rd_U8 _ p q _ st1 P1).mono ?_
    rintro e y2 ⟨ex, rfl, ex0, ex1, st2, G2, P2, t2⟩
    have T2 : Tch [p, q] w y2 := T1.trans t2 (fun _ _ x => x) (fun i _ hi => by simp at hi ⊢; exact .inr hi)
    have S2 := S1.tch t2 (fun i hi _ => by simp at hi ⊢; exact .inr hi)
    refine hK.out _ _ (P2.cell) (fun hHeld => ?_)
    clear hK K
    try simp only [Act.put, List.setIfInBounds_toArray, List.set_cons_zero, List.set_cons_succ]
    refine wpAnyH_ready (rs := [5, 12]) (by kernel_rfl) (by simp) ?_
    refine AllReadyH.cons rfl (fun K hK => ?_) (AllReadyH.cons rfl (fun K hK => ?_) AllReadyH.nil)
    · have hcs := run_str (P := Tryz.prog) 30 5 9 Tryz.underlying30 Tryz.underlying5 Tryz.underlying9 S2
      go_simp
      refine hK.out _ _ (P2.cell) (fun hHeld => ?_)
      clear hK K
      try simp only [Act.put, List.setIfInBounds_toArray, List.set_cons_zero, List.set_cons_succ]
      refine wpAnyH_ready (rs := [12]) (by kernel_rfl) (by simp) ?_
      refine AllReadyH.cons rfl (fun K hK => ?_) AllReadyH.nil
      go_simp
      go_at_call 49
      refine (im_plist' _ p q _ st2 P2 (List.mem_cons_of_mem _ hp) (p :: q :: w0.heap.size :: M) (fun i hi => by have := T2.size; simp at hi; rcases hi with hi | hi | hi | hi; omega; omega; omega; have := hM i hi; omega)).mono ?_
      rintro e y3 ⟨ap, cp, ps, st3, rfl, ip, G3, hl3, P3, t3⟩
      have T3 : Tch [p, q] w y3 := T2.trans t3 (fun _ _ x => x) (fun _ _ x => x)
      refine hK.out _ _ (P3.cell) (fun hHeld => ?_)
      clear hK K
      try simp only [Act.put, List.setIfInBounds_toArray, List.set_cons_zero, List.set_cons_succ]
      refine wpAnyH_ready (rs := [17]) (by kernel_rfl) (by simp) ?_
      refine AllReadyH.cons rfl (fun K hK => ?_) AllReadyH.nil
      go_simp
      go_at_call 94
      refine (rd_U8 _ p q _ st3 P3).mono ?_
      rintro e y4 ⟨re, rfl, re0, re1, st4, G4, P4, t4⟩
      have T4 : Tch [p, q] w y4 := T3.trans t4 (fun _ _ x => x) (fun i _ hi => by simp at hi ⊢; exact .inr hi)
      have ip4 := ip.tch t4 (fun i hi _ => by simp at hi ⊢; simp [hi])
      refine hK.out _ _ (P4.cell) (fun hHeld => ?_)
      clear hK K
      try simp only [Act.put, List.setIfInBounds_toArray, List.set_cons_zero, List.set_cons_succ]
      refine wpAnyH_ready (rs := [18]) (by kernel_rfl) (by simp) ?_
      refine AllReadyH.cons rfl (fun K hK => ?_) AllReadyH.nil
      go_simp
      refine hK.out _ _ (P4.cell) (fun hHeld => ?_)
      clear hK K
      try simp only [Act.put, List.setIfInBounds_toArray, List.set_cons_zero, List.set_cons_succ]
      have B4w := B0.tch T4 (by simp; omega)
      obtain ⟨b0, b1, b2, b3, u0, u1, u2, u3⟩ := B4w
      have hr0 : w0.heap.size ∉ [p, q] := by simp; omega
      have TF : Tch [w0.heap.size] y4 ((((y4.setCell ⟨w0.heap.size, 0, none⟩ (.string (strOfNums b))).setCell ⟨w0.heap.size, 1, none⟩ (.int .i64 ex)).setCell ⟨w0.heap.size, 2, none⟩ (.slice ap ps.length cp)).setCell ⟨w0.heap.size, 3, none⟩ (.int .i64 re)) := (((((Tch.refl [w0.heap.size] y4).setCell (.inl (by simp)) _).setCell (.inl (by simp)) _).setCell (.inl (by simp)) _).setCell (.inl (by simp)) _)
      have c5 := (TF.cell (p := ⟨p, 0, none⟩) P4.lt.1 (by simp; omega)).trans P4.cell
      refine wpAnyH_ready (rs := [19]) (by kernel_rfl) (by simp) ?_
      refine AllReadyH.cons rfl (fun K hK => ?_) AllReadyH.nil
      go_simp
      refine hK.out _ _ (c5) (fun hHeld => ?_)
      clear hK K
      try simp only [Act.put, List.setIfInBounds_toArray, List.set_cons_zero, List.set_cons_succ]
      refine wpAnyH_done (by kernel_rfl) ?_ _
      go_wp2_with fail
      refine bodyPost_ret (v := .agg #[.string (strOfNums b), .int .i64 ex, .slice ap ps.length cp, .int .i64 re]) (by simp [results, Tryz.results52, go_sem, b0, b1, b2, b3, u0, u1, u2, u3]) rfl ?_
      exact ⟨⟨unnums b, ex, ps, re⟩, _, st4, rfl, (ip4.tch TF (fun i hi _ => by simp at hi; simp [hi])).mono (fun i hi _ => by simp at hi ⊢; rcases hi with hi | hi | hi <;> simp [hi]), Got.bind G1 (Got.bind G2 (Got.bind G3 (Got.bind G4 (Got.ret _ _)))), hl3, (P4.tch TF (by simp; omega) (by simp; omega) (fun i hi _ => by simp at hi; simp [hi])).mono (fun i hi _ => List.mem_cons_of_mem _ hi), ((tw.nil (L := [p, q])).trans T4 (fun _ _ x => x) (fun _ _ x => x)).trans TF (fun _ _ x => x) (fun i hlt hi => by simp at hi; omega)⟩
    · go_simp
      go_at_call 49
      refine (im_plist' _ p q _ st2 P2 (List.mem_cons_of_mem _ hp) (p :: q :: w0.heap.size :: M) (fun i hi => by have := T2.size; simp at hi; rcases hi with hi | hi | hi | hi; omega; omega; omega; have := hM i hi; omega)).mono ?_
      rintro e y3 ⟨ap, cp, ps, st3, rfl, ip, G3, hl3, P3, t3⟩
      have T3 : Tch [p, q] w y3 := T2.trans t3 (fun _ _ x => x) (fun _ _ x => x)
      have S3 := S2.tch t3 (fun i hi _ => hi)
      refine hK.out _ _ (P3.cell) (fun hHeld => ?_)
      clear hK K
      try simp only [Act.put, List.setIfInBounds_toArray, List.set_cons_zero, List.set_cons_succ]
      refine wpAnyH_ready (rs := [5, 17]) (by kernel_rfl) (by simp) ?_
      refine AllReadyH.cons rfl (fun K hK => ?_) (AllReadyH.cons rfl (fun K hK => ?_) AllReadyH.nil)
      · have hcs := run_str (P := Tryz.prog) 30 5 9 Tryz.underlying30 Tryz.underlying5 Tryz.underlying9 S3
        go_simp
        refine hK.out _ _ (P3.cell) (fun hHeld => ?_)
        clear hK K
        try simp only [Act.put, List.setIfInBounds_toArray, List.set_cons_zero, List.set_cons_succ]
        refine wpAnyH_ready (rs := [17]) (by kernel_rfl) (by simp) ?_
        refine AllReadyH.cons rfl (fun K hK => ?_) AllReadyH.nil
        go_simp
        go_at_call 94
        refine (rd_U8 _ p q _ st3 P3).mono ?_
        rintro e y4 ⟨re, rfl, re0, re1, st4, G4, P4, t4⟩
        have T4 : Tch [p, q] w y4 := T3.trans t4 (fun _ _ x => x) (fun i _ hi => by simp at hi ⊢; exact .inr hi)
        have ip4 := ip.tch t4 (fun i hi _ => by simp at hi ⊢; simp [hi])
        refine hK.out _ _ (P4.cell) (fun hHeld => ?_)
        clear hK K
        try simp only [Act.put, List.setIfInBounds_toArray, List.set_cons_zero, List.set_cons_succ]
        refine wpAnyH_ready (rs := [18]) (by kernel_rfl) (by simp) ?_
        refine AllReadyH.cons rfl (fun K hK => ?_) AllReadyH.nil
        go_simp
        refine hK.out _ _ (P4.cell) (fun hHeld => ?_)
        clear hK K
        try simp only [Act.put, List.setIfInBounds_toArray, List.set_cons_zero, List.set_cons_succ]
        have B4w := B0.tch T4 (by simp; omega)
        obtain ⟨b0, b1, b2, b3, u0, u1, u2, u3⟩ := B4w
        have hr0 : w0.heap.size ∉ [p, q] := by simp; omega
        have TF : Tch [w0.heap.size] y4 ((((y4.setCell ⟨w0.heap.size, 0, none⟩ (.string (strOfNums b))).setCell ⟨w0.heap.size, 1, none⟩ (.int .i64 ex)).setCell ⟨w0.heap.size, 2, none⟩ (.slice ap ps.length cp)).setCell ⟨w0.heap.size, 3, none⟩ (.int .i64 re)) := (((((Tch.refl [w0.heap.size] y4).setCell (.inl (by simp)) _).setCell (.inl (by simp)) _).setCell (.inl (by simp)) _).setCell (.inl (by simp)) _)
        have c5 := (TF.cell (p := ⟨p, 0, none⟩) P4.lt.1 (by simp; omega)).trans P4.cell
        refine wpAnyH_ready (rs := [19]) (by kernel_rfl) (by simp) ?_
        refine AllReadyH.cons rfl (fun K hK => ?_) AllReadyH.nil
        go_simp
        refine hK.out _ _ (c5) (fun hHeld => ?_)
        clear hK K
        try simp only [Act.put, List.setIfInBounds_toArray, List.set_cons_zero, List.set_cons_succ]
        refine wpAnyH_done (by kernel_rfl) ?_ _
        go_wp2_with fail
        refine bodyPost_ret (v := .agg #[.string (strOfNums b), .int .i64 ex, .slice ap ps.length cp, .int .i64 re]) (by simp [results, Tryz.results52, go_sem, b0, b1, b2, b3, u0, u1, u2, u3]) rfl ?_
        exact ⟨⟨unnums b, ex, ps, re⟩, _, st4, rfl, (ip4.tch TF (fun i hi _ => by simp at hi; simp [hi])).mono (fun i hi _ => by simp at hi ⊢; rcases hi with hi | hi | hi <;> simp [hi]), Got.bind G1 (Got.bind G2 (Got.bind G3 (Got.bind G4 (Got.ret _ _)))), hl3, (P4.tch TF (by simp; omega) (by simp; omega) (fun i hi _ => by simp at hi; simp [hi])).mono (fun i hi _ => List.mem_cons_of_mem _ hi), ((tw.nil (L := [p, q])).trans T4 (fun _ _ x => x) (fun _ _ x => x)).trans TF (fun _ _ x => x) (fun i hlt hi => by simp at hi; omega)⟩
      · go_simp
        go_at_call 94
        refine (rd_U8 _ p q _ st3 P3).mono ?_
        rintro e y4 ⟨re, rfl, re0, re1, st4, G4, P4, t4⟩
        have T4 : Tch [p, q] w y4 := T3.trans t4 (fun _ _ x => x) (fun i _ hi => by simp at hi ⊢; exact .inr hi)
        have ip4 := ip.tch t4 (fun i hi _ => by simp at hi ⊢; simp [hi])
        have S4 := S3.tch t4 (fun i hi _ => by simp at hi ⊢; exact .inr hi)
        refine hK.out _ _ (P4.cell) (fun hHeld => ?_)
        clear hK K
        try simp only [Act.put, List.setIfInBounds_toArray, List.set_cons_zero, List.set_cons_succ]
        refine wpAnyH_ready (rs := [5]) (by kernel_rfl) (by simp) ?_
        refine AllReadyH.cons rfl (fun K hK => ?_) AllReadyH.nil
        have hcs := run_str (P := Tryz.prog) 30 5 9 Tryz.underlying30 Tryz.underlying5 Tryz.underlying9 S4
        go_simp
        refine hK.out _ _ (P4.cell) (fun hHeld => ?_)
        clear hK K
        try simp only [Act.put, List.setIfInBounds_toArray, List.set_cons_zero, List.set_cons_succ]
        refine wpAnyH_ready (rs := [18]) (by kernel_rfl) (by simp) ?_
        refine AllReadyH.cons rfl (fun K hK => ?_) AllReadyH.nil
        go_simp
        refine hK.out _ _ (P4.cell) (fun hHeld => ?_)
        clear hK K
        try simp only [Act.put, List.setIfInBounds_toArray, List.set_cons_zero, List.set_cons_succ]
        have B4w := B0.tch T4 (by simp; omega)
        obtain ⟨b0, b1, b2, b3, u0, u1, u2, u3⟩ := B4w
        have hr0 : w0.heap.size ∉ [p, q] := by simp; omega
        have TF : Tch [w0.heap.size] y4 ((((y4.setCell ⟨w0.heap.size, 0, none⟩ (.string (strOfNums b))).setCell ⟨w0.heap.size, 1, none⟩ (.int .i64 ex)).setCell ⟨w0.heap.size, 2, none⟩ (.slice ap ps.length cp)).setCell ⟨w0.heap.size, 3, none⟩ (.int .i64 re)) := (((((Tch.refl [w0.heap.size] y4).setCell (.inl (by simp)) _).setCell (.inl (by simp)) _).setCell (.inl (by simp)) _).setCell (.inl (by simp)) _)
        have c5 := (TF.cell (p := ⟨p, 0, none⟩) P4.lt.1 (by simp; omega)).trans P4.cell
        refine wpAnyH_ready (rs := [19]) (by kernel_rfl) (by simp) ?_
        refine AllReadyH.cons rfl (fun K hK => ?_) AllReadyH.nil
        go_simp
        refine hK.out _ _ (c5) (fun hHeld => ?_)
        clear hK K
        try simp only [Act.put, List.setIfInBounds_toArray, List.set_cons_zero, List.set_cons_succ]
        refine wpAnyH_done (by kernel_rfl) ?_ _
        go_wp2_with fail
        refine bodyPost_ret (v := .agg #[.string (strOfNums b), .int .i64 ex, .slice ap ps.length cp, .int .i64 re]) (by simp [results, Tryz.results52, go_sem, b0, b1, b2, b3, u0, u1, u2, u3]) rfl ?_
        exact ⟨⟨unnums b, ex, ps, re⟩, _, st4, rfl, (ip4.tch TF (fun i hi _ => by simp at hi; simp [hi])).mono (fun i hi _ => by simp at hi ⊢; rcases hi with hi | hi | hi <;> simp [hi]), Got.bind G1 (Got.bind G2 (Got.bind G3 (Got.bind G4 (Got.ret _ _)))), hl3, (P4.tch TF (by simp; omega) (by simp; omega) (fun i hi _ => by simp at hi; simp [hi])).mono (fun i hi _ => List.mem_cons_of_mem _ hi), ((tw.nil (L := [p, q])).trans T4 (fun _ _ x => x) (fun _ _ x => x)).trans TF (fun _ _ x => x) (fun i hlt hi => by simp at hi; omega)⟩
end Go.Proofs.YtapephelfijcbaaGreatDoor
