/-
  CONTRACTS: image.Read's closures: an import, a method more. Conditions: the reader's bytes lie in blocks that nobody turns.
-/
import Derived.Test.YtapephelfijcbaaGreatDoorHImu
namespace Go.Tcn
open Go.RowKit
set_option linter.unusedVariables false
set_option linter.unusedSimpArgs false
/-- A box of cells, the c-th a slice of the call's own, of things that read as xs; none of their blocks is one of M. -/
structure OL {α : Type} (w : World) (T E : TypeId) (sz g c row : Nat) (cs : Array Value) (M : List Nat) (R : World → List Nat → List Value → α → Prop) (xs : List α) : Prop where
  ex : ∃ css : List (List Value), css.length = xs.length ∧ (∀ d ∈ css, d.length = sz) ∧ OB w T E sz g c row cs xs.length css.flatten ∧ ∀ (k : Nat) d x, css[k]? = some d → xs[k]? = some x → R w (row :: M) d x
theorem OL.tch {α : Type} {w w' : World} {T E : TypeId} {sz g c row : Nat} {cs : Array Value} {M L : List Nat} {R : World → List Nat → List Value → α → Prop} {xs : List α} (hR : ∀ d x, R w (row :: M) d x → R w' (row :: M) d x) (h : OL w T E sz g c row cs M R xs) (t : Tch L w w') (hg : g ∉ L) (hr : row ∉ L) : OL w' T E sz g c row cs M R xs := by
  obtain ⟨css, h1, h2, h3, h4⟩ := h.ex
  exact ⟨css, h1, h2, h3.tch t hg hr, fun k d x a b => hR _ _ (h4 k d x a b)⟩
end Go.Tcn
namespace Go.Proofs.YtapephelfijcbaaGreatDoor
open Go.RowKit Go.Tcn
set_option linter.unusedVariables false
set_option linter.unusedSimpArgs false
theorem info_impq : (Tryz.prog.info? 45).map (fun i => (i.zero, i.size, i.bytes)) = some (some (.agg #[.string ⟨#[]⟩, .int .i64 0, .slice none 0 0, .int .i64 0]), 4, 56) := by kernel_rfl
theorem info_mthq : (Tryz.prog.info? 50).map (fun i => (i.zero, i.size, i.bytes)) = some (some (.agg #[.slice none 0 0, .int .i64 0, .slice none 0 0, .slice none 0 0]), 4, 80) := by kernel_rfl
theorem im_imported' (w0 : World) (p q : Nat) (L : List Nat) (st : St) (h : PSt 80 116 w0 p q L st) (hp : p ∈ L) (M : List Nat) (hM0 : ∀ i ∈ M, i < w0.heap.size) :
    Calls Tryz.prog 52 #[.pointer (some ⟨p, 0, none⟩)] w0 fun e w' => ∃ (x : Imp) (ap : Option Addr) (cp : Nat) (st' : St), e = .returned (.agg #[.string ⟨x.name.toArray⟩, .int .i64 x.exp, .slice ap x.params.length cp, .int .i64 x.result]) ∧ RImp w' (p :: q :: M) [.string ⟨x.name.toArray⟩, .int .i64 x.exp, .slice ap x.params.length cp, .int .i64 x.result] x ∧ Got impP st x st' ∧ x.params.length ≤ 255 ∧ PSt 80 116 w' p q L st' ∧ Tch [p, q] w0 w' :=
  (im_imported w0 p q L st h hp M hM0).mono fun e w' ⟨x, vp, st', he, h1, h2⟩ => by
    obtain ⟨ao, cap, hv⟩ := Src.form h1
    exact ⟨x, ao, cap, st', by rw [he, hv], ⟨_, rfl, hv ▸ h1⟩, h2⟩
theorem im_method' (w0 : World) (p q : Nat) (L : List Nat) (st : St) (h : PSt 80 116 w0 p q L st) (hp : p ∈ L) (M : List Nat) (hM0 : ∀ i ∈ M, i < w0.heap.size) :
    Calls Tryz.prog 54 #[.pointer (some ⟨p, 0, none⟩)] w0 fun e w' => ∃ (x : Mth) (ap : Option Addr) (cp : Nat) (al : Option Addr) (cl : Nat) (ac : Option Addr) (cc : Nat) (st' : St), e = .returned (.agg #[.slice ap x.params.length cp, .int .i64 x.result, .slice al x.locals.length cl, .slice ac x.code.length cc]) ∧ RMth w' (p :: q :: M) [.slice ap x.params.length cp, .int .i64 x.result, .slice al x.locals.length cl, .slice ac x.code.length cc] x ∧ Got mthP st x st' ∧ (x.params.length ≤ 255 ∧ x.locals.length ≤ 255 ∧ x.code.length ≤ 255) ∧ PSt 80 116 w' p q L st' ∧ Tch [p, q] w0 w' :=
  (im_method w0 p q L st h hp M hM0).mono fun e w' ⟨x, vp, vl, vc, st', he, h1, h2, h3, h4, h5, h6⟩ => by
    obtain ⟨vp', vl', vc', e1, k1, k2, k3⟩ := h1
    simp only [List.cons.injEq, and_true] at e1
    obtain ⟨rfl, _, rfl, rfl⟩ := e1
    obtain ⟨ap, cp, rfl⟩ := Src.form k1
    obtain ⟨al, cl, rfl⟩ := Src.form k2
    obtain ⟨ac, cc, rfl⟩ := RCode.form k3
    exact ⟨x, ap, cp, al, cl, ac, cc, st', he, ⟨_, _, _, rfl, k1, k2, k3⟩, h2, ⟨h3, h4, h5⟩, h6⟩
set_option maxRecDepth 100000 in
set_option maxHeartbeats 8000000 in
theorem im_read1 (w : World) (p q g b row : Nat) (L M : List Nat) (l : List Int) (xs : List Imp) (cs : Array Value) (hcs : 2 < cs.size) (h : PSt 80 116 w p q (row :: g :: L) (.ok l)) (hL : p ∈ L) (ho : OL w 27 45 4 g 2 row cs M RImp xs) (hb : w.cell? ⟨b, 0, none⟩ = some (.pointer (some ⟨p, 0, none⟩)))
    (hd : b ≠ p ∧ b ≠ q ∧ b ≠ g ∧ g ≠ p ∧ g ≠ q ∧ row ≠ p ∧ row ≠ q ∧ row ≠ b) (hx : xs.length ≤ 255) (hM : p ∈ M ∧ q ∈ M ∧ g ∈ M) (hMl : ∀ i ∈ M, i < w.heap.size) :
    Calls Tryz.prog 51 #[.pointer (some ⟨g, 0, none⟩), .pointer (some ⟨b, 0, none⟩)] w fun e w' => e = .returned (.tuple #[]) ∧ ∃ x st', Got impP (.ok l) x st' ∧ ∃ row', x.params.length ≤ 255 ∧ PSt 80 116 w' p q (row' :: g :: L) st' ∧ OL w' 27 45 4 g 2 row' cs M RImp (xs ++ [x]) ∧ (row' = row ∨ w.heap.size ≤ row') ∧ Tch [p, q, g, row] w w' := by
  obtain ⟨i0, hi, hz0, hz1, hz2⟩ := info_parts info_impq
  obtain ⟨d1, d2, d3, d4, d5, d6, d7, d8⟩ := hd
  obtain ⟨m1, m2, m3⟩ := hM
  have hlt := h.lt
  have hpc := h.cell
  obtain ⟨css, hcl, hcz, hoB, hel⟩ := ho.ex
  obtain ⟨v0, hv0, hown, hrow, hne⟩ := hoB.ex
  have hglt := heap_lt hv0
  have hblt := cell_lt hb
  have hrlt := hoB.row_lt
  have hfl : css.flatten.length = css.length * 4 := flatten_length hcz
  have hge : ∀ W : World, W.heap[g]? = some (.cells (cs.setIfInBounds 2 v0) 27 (0, 0)) → W.cell? ⟨g, 2, none⟩ = some v0 ∧ W.frozen? ⟨g, 2, none⟩ = false := fun W hW => by
    constructor
    · simp [World.cell?, hW, Array.getElem?_setIfInBounds, hcs]
    · simp [World.frozen?, hW]
  have c0 : w.drew.cell? ⟨g, 2, none⟩ = some v0 := (hge w hv0).1
  have cb : w.drew.cell? ⟨b, 0, none⟩ = some (.pointer (some ⟨p, 0, none⟩)) := hb
  have cp : w.drew.cell? ⟨p, 0, none⟩ = some (.pointer (some ⟨q, 0, none⟩)) := hpc
  have hbnd : xs.length + 1 ≤ 9223372036854775807 ∧ (xs.length + 1) * 56 ≤ 140737488355328 := by omega
  have hnq : ∀ k, v0.ownBlock = some k → k ∉ [p, q] := fun k hk => by
    rw [hk] at hrow; simp at hrow; simp; omega
  have hP0 : PSt 80 116 w.drew p q (row :: g :: L) (.ok l) := h.tch (Tch.refl [] w).drew (by simp) (by simp) (by simp)
  have hMr : ∀ i ∈ row :: M, i < w.drew.heap.size := fun i hi => by
    rcases List.mem_cons.1 hi with hi | hi
    · exact hi ▸ hrlt
    · exact hMl i hi
  have hcon := im_imported' w.drew p q _ (.ok l) hP0 (by simp [hL]) (row :: M) hMr
  have HR := Lib.hid hrow; clear hrow
  go_enter Tryz.func51, Tryz.ntmps51
  go_wp2_with fail
  go_region_law (first | (refine step_append_any _ rfl (.tmp 3) (.tmp 6) 24 rfl 45 i0 (.agg #[.string ⟨#[]⟩, .int .i64 0, .slice none 0 0, .int .i64 0]) 4 56 Tryz.underlying24 hi hz0 hz1 hz2 rfl (by decide) v0 xs.length css.flatten rfl hown2 [] _ 1 [.string ⟨x.name.toArray⟩, .int .i64 x.exp, .slice ap x.params.length cp, .int .i64 x.result] rfl hsrc rfl h1c hbnd ?_; intro ao cap w3 hown3 hgrow hat; have c3 : w3.cell? ⟨g, 2, none⟩ = some v0 := (hgrow.cell_far ⟨g, 2, none⟩ hg2 (fun e => hne e.symm)).trans c2; have f3 : w3.frozen? ⟨g, 2, none⟩ = false := (hgrow.frozen_far ⟨g, 2, none⟩ hg2 (fun e => hne e.symm)).trans f2) | (go_simp; go_at_call 52; refine hcon.mono ?_; rintro e w1 ⟨x, ap, cp, st', rfl, hrx, hgot, hlen, hP1, t0⟩; have t1 : Tch [p, q] w w1 := ((Tch.refl [p, q] w).drew).trans t0 (fun _ _ h => h) (fun _ _ h => h); have e1 : w1.heap[g]? = some (.cells (cs.setIfInBounds 2 v0) 27 (0, 0)) := (t1.block g hglt (fun hx => (by simp at hx; omega))).trans hv0; have c1 : w1.cell? ⟨g, 2, none⟩ = some v0 := (hge w1 e1).1; have hg2 : g < (w1.alloc (.cells #[.string ⟨x.name.toArray⟩, .int .i64 x.exp, .slice ap x.params.length cp, .int .i64 x.result] 45)).heap.size := Nat.lt_of_lt_of_le (Nat.lt_of_lt_of_le hglt t1.size) (Tch.alloc (Tch.refl [] w1) _).size; have c2 : (w1.alloc (.cells #[.string ⟨x.name.toArray⟩, .int .i64 x.exp, .slice ap x.params.length cp, .int .i64 x.result] 45)).cell? ⟨g, 2, none⟩ = some v0 := (World.cell?_alloc_past _ _ _ (heap_lt e1)).trans c1; have f2 : (w1.alloc (.cells #[.string ⟨x.name.toArray⟩, .int .i64 x.exp, .slice ap x.params.length cp, .int .i64 x.result] 45)).frozen? ⟨g, 2, none⟩ = false := (World.frozen?_alloc_past _ _ _ (heap_lt e1)).trans (hge w1 e1).2; have hown2 : (w1.alloc (.cells #[.string ⟨x.name.toArray⟩, .int .i64 x.exp, .slice ap x.params.length cp, .int .i64 x.result] 45)).ownsRow 0 45 4 v0 xs.length css.flatten := (ownsRow_tch hown t1 hnq).alloc _; have hsrc : Src (w1.alloc (.cells #[.string ⟨x.name.toArray⟩, .int .i64 x.exp, .slice ap x.params.length cp, .int .i64 x.result] 45)) [] (.slice (some ⟨w1.heap.size, 0, none⟩) 1 1) 1 [.string ⟨x.name.toArray⟩, .int .i64 x.exp, .slice ap x.params.length cp, .int .i64 x.result] := src_new w1 _ [] #[.string ⟨x.name.toArray⟩, .int .i64 x.exp, .slice ap x.params.length cp, .int .i64 x.result] 45 1 1 (Tch.refl [] _) (by simp); have h1c : ∀ u ∈ ([.string ⟨x.name.toArray⟩, .int .i64 x.exp, .slice ap x.params.length cp, .int .i64 x.result] : List Value), u.oneCell' = true := (by intro u hu; simp at hu; rcases hu with rfl | rfl | rfl | rfl <;> rfl)))
  all_goals
    go_end0
    obtain ⟨row', o1, o2, o3⟩ := OB.grow (w := w1) (c := 2) (cs := cs) (xs := css.flatten) (news := [.string ⟨x.name.toArray⟩, .int .i64 x.exp, .slice ap x.params.length cp, .int .i64 x.result]) e1 hne ((Tch.refl [] w1).alloc _) hgrow (xs.length + 1) hown3 hat
    rw [← HR.out] at o2 o3
    have hr' : row' = row ∨ w1.heap.size ≤ row' := o2
    have wid : ∀ i ∈ row' :: row :: M, i < w1.heap.size → i ∈ row :: M := fun i hi hlt => by
      rcases List.mem_cons.1 hi with hi | hi
      · rcases o2 with o2 | o2
        · rw [hi, o2]; simp
        · omega
      · exact hi
    have hin : ∀ i ∈ [g, row], i < w1.heap.size → i ∈ row' :: row :: M := fun i hi _ => by simp at hi ⊢; rcases hi with hi | hi <;> simp [hi, m3]
    have nar : ∀ (W : World), ∀ i ∈ row' :: M, i < W.heap.size → i ∈ row' :: row :: M := fun W i hi _ => by simp at hi ⊢; rcases hi with hi | hi <;> simp [hi]
    refine ⟨rfl, x, st', hgot, row', hlen, ?_, ⟨css ++ [[.string ⟨x.name.toArray⟩, .int .i64 x.exp, .slice ap x.params.length cp, .int .i64 x.result]], by simp [hcl], ?_, ?_, ?_⟩, ?_, ?_⟩
    · have h1 := hP1.mono (L' := row' :: row :: g :: L) (fun i hi hlt => by
        rcases List.mem_cons.1 hi with hi | hi
        · rcases o2 with o2 | o2
          · rw [hi, o2]; simp
          · omega
        · exact hi)
      have h2 := h1.tch o3 (by simp; omega) (by simp; omega) (fun i hi _ => by simp at hi ⊢; rcases hi with hi | hi <;> simp [hi])
      exact h2.mono (fun i hi _ => by simp at hi ⊢; rcases hi with hi | hi | hi <;> simp [hi])
    · intro d hd
      rcases List.mem_append.1 hd with hd | hd
      · exact hcz d hd
      · simp at hd; subst hd; rfl
    · have e2 : (css ++ [([.string ⟨x.name.toArray⟩, .int .i64 x.exp, .slice ap x.params.length cp, .int .i64 x.result] : List Value)]).flatten = css.flatten ++ [.string ⟨x.name.toArray⟩, .int .i64 x.exp, .slice ap x.params.length cp, .int .i64 x.result] := by simp
      have en : (xs ++ [x]).length = xs.length + 1 := by simp
      rw [e2, en]; exact o1
    · intro k d y hkd hky
      by_cases hk : k < css.length
      · rw [List.getElem?_append_left hk] at hkd
        rw [List.getElem?_append_left (by omega)] at hky
        have := hel k d y hkd hky
        exact RImp.mono ((RImp.mono (this.tch t1 (fun i hi _ => by simp at hi ⊢; rcases hi with hi | hi <;> simp [hi, m1, m2])) wid).tch o3 hin) (nar _)
      · have hk2 : k = css.length := by
          have := (List.getElem?_eq_some_iff.1 hkd).1
          simp at this; omega
        subst hk2
        rw [List.getElem?_append_right (Nat.le_refl _)] at hkd
        rw [List.getElem?_append_right (by omega), hcl] at hky
        simp at hkd hky
        subst hkd; subst hky
        exact RImp.mono ((RImp.mono (RImp.mono hrx (fun i hi _ => List.mem_cons_of_mem _ (List.mem_cons_of_mem _ hi))) wid).tch o3 hin) (nar _)
    · rcases o2 with o2 | o2
      · exact .inl o2
      · exact .inr (Nat.le_trans t1.size o2)
    · exact t1.trans o3 (fun i _ hi => by simp at hi ⊢; rcases hi with hi | hi <;> simp [hi]) (fun i _ hi => by simp at hi ⊢; rcases hi with hi | hi <;> simp [hi])
set_option maxRecDepth 100000 in
set_option maxHeartbeats 8000000 in
theorem im_read2 (w : World) (p q g b row : Nat) (L M : List Nat) (l : List Int) (xs : List Mth) (cs : Array Value) (hcs : 3 < cs.size) (h : PSt 80 116 w p q (row :: g :: L) (.ok l)) (hL : p ∈ L) (ho : OL w 27 50 4 g 3 row cs M RMth xs) (hb : w.cell? ⟨b, 0, none⟩ = some (.pointer (some ⟨p, 0, none⟩)))
    (hd : b ≠ p ∧ b ≠ q ∧ b ≠ g ∧ g ≠ p ∧ g ≠ q ∧ row ≠ p ∧ row ≠ q ∧ row ≠ b) (hx : xs.length ≤ 255) (hM : p ∈ M ∧ q ∈ M ∧ g ∈ M) (hMl : ∀ i ∈ M, i < w.heap.size) :
    Calls Tryz.prog 53 #[.pointer (some ⟨g, 0, none⟩), .pointer (some ⟨b, 0, none⟩)] w fun e w' => e = .returned (.tuple #[]) ∧ ∃ x st', Got mthP (.ok l) x st' ∧ ∃ row', (x.params.length ≤ 255 ∧ x.locals.length ≤ 255 ∧ x.code.length ≤ 255) ∧ PSt 80 116 w' p q (row' :: g :: L) st' ∧ OL w' 27 50 4 g 3 row' cs M RMth (xs ++ [x]) ∧ (row' = row ∨ w.heap.size ≤ row') ∧ Tch [p, q, g, row] w w' := by
  obtain ⟨i0, hi, hz0, hz1, hz2⟩ := info_parts info_mthq
  obtain ⟨d1, d2, d3, d4, d5, d6, d7, d8⟩ := hd
  obtain ⟨m1, m2, m3⟩ := hM
  have hlt := h.lt
  have hpc := h.cell
  obtain ⟨css, hcl, hcz, hoB, hel⟩ := ho.ex
  obtain ⟨v0, hv0, hown, hrow, hne⟩ := hoB.ex
  have hglt := heap_lt hv0
  have hblt := cell_lt hb
  have hrlt := hoB.row_lt
  have hfl : css.flatten.length = css.length * 4 := flatten_length hcz
  have hge : ∀ W : World, W.heap[g]? = some (.cells (cs.setIfInBounds 3 v0) 27 (0, 0)) → W.cell? ⟨g, 3, none⟩ = some v0 ∧ W.frozen? ⟨g, 3, none⟩ = false := fun W hW => by
    constructor
    · simp [World.cell?, hW, Array.getElem?_setIfInBounds, hcs]
    · simp [World.frozen?, hW]
  have c0 : w.drew.cell? ⟨g, 3, none⟩ = some v0 := (hge w hv0).1
  have cb : w.drew.cell? ⟨b, 0, none⟩ = some (.pointer (some ⟨p, 0, none⟩)) := hb
  have cp : w.drew.cell? ⟨p, 0, none⟩ = some (.pointer (some ⟨q, 0, none⟩)) := hpc
  have hbnd : xs.length + 1 ≤ 9223372036854775807 ∧ (xs.length + 1) * 80 ≤ 140737488355328 := by omega
  have hnq : ∀ k, v0.ownBlock = some k → k ∉ [p, q] := fun k hk => by
    rw [hk] at hrow; simp at hrow; simp; omega
  have hP0 : PSt 80 116 w.drew p q (row :: g :: L) (.ok l) := h.tch (Tch.refl [] w).drew (by simp) (by simp) (by simp)
  have hMr : ∀ i ∈ row :: M, i < w.drew.heap.size := fun i hi => by
    rcases List.mem_cons.1 hi with hi | hi
    · exact hi ▸ hrlt
    · exact hMl i hi
  have hcon := im_method' w.drew p q _ (.ok l) hP0 (by simp [hL]) (row :: M) hMr
  have HR := Lib.hid hrow; clear hrow
  go_enter Tryz.func53, Tryz.ntmps53
  go_wp2_with fail
  go_region_law (first | (refine step_append_any _ rfl (.tmp 3) (.tmp 6) 25 rfl 50 i0 (.agg #[.slice none 0 0, .int .i64 0, .slice none 0 0, .slice none 0 0]) 4 80 Tryz.underlying25 hi hz0 hz1 hz2 rfl (by decide) v0 xs.length css.flatten rfl hown2 [] _ 1 [.slice ap x.params.length cp, .int .i64 x.result, .slice al x.locals.length cl, .slice ac x.code.length cc] rfl hsrc rfl h1c hbnd ?_; intro ao cap w3 hown3 hgrow hat; have c3 : w3.cell? ⟨g, 3, none⟩ = some v0 := (hgrow.cell_far ⟨g, 3, none⟩ hg2 (fun e => hne e.symm)).trans c2; have f3 : w3.frozen? ⟨g, 3, none⟩ = false := (hgrow.frozen_far ⟨g, 3, none⟩ hg2 (fun e => hne e.symm)).trans f2) | (go_simp; go_at_call 54; refine hcon.mono ?_; rintro e w1 ⟨x, ap, cp, al, cl, ac, cc, st', rfl, hrx, hgot, hlen, hP1, t0⟩; have t1 : Tch [p, q] w w1 := ((Tch.refl [p, q] w).drew).trans t0 (fun _ _ h => h) (fun _ _ h => h); have e1 : w1.heap[g]? = some (.cells (cs.setIfInBounds 3 v0) 27 (0, 0)) := (t1.block g hglt (fun hx => (by simp at hx; omega))).trans hv0; have c1 : w1.cell? ⟨g, 3, none⟩ = some v0 := (hge w1 e1).1; have hg2 : g < (w1.alloc (.cells #[.slice ap x.params.length cp, .int .i64 x.result, .slice al x.locals.length cl, .slice ac x.code.length cc] 50)).heap.size := Nat.lt_of_lt_of_le (Nat.lt_of_lt_of_le hglt t1.size) (Tch.alloc (Tch.refl [] w1) _).size; have c2 : (w1.alloc (.cells #[.slice ap x.params.length cp, .int .i64 x.result, .slice al x.locals.length cl, .slice ac x.code.length cc] 50)).cell? ⟨g, 3, none⟩ = some v0 := (World.cell?_alloc_past _ _ _ (heap_lt e1)).trans c1; have f2 : (w1.alloc (.cells #[.slice ap x.params.length cp, .int .i64 x.result, .slice al x.locals.length cl, .slice ac x.code.length cc] 50)).frozen? ⟨g, 3, none⟩ = false := (World.frozen?_alloc_past _ _ _ (heap_lt e1)).trans (hge w1 e1).2; have hown2 : (w1.alloc (.cells #[.slice ap x.params.length cp, .int .i64 x.result, .slice al x.locals.length cl, .slice ac x.code.length cc] 50)).ownsRow 0 50 4 v0 xs.length css.flatten := (ownsRow_tch hown t1 hnq).alloc _; have hsrc : Src (w1.alloc (.cells #[.slice ap x.params.length cp, .int .i64 x.result, .slice al x.locals.length cl, .slice ac x.code.length cc] 50)) [] (.slice (some ⟨w1.heap.size, 0, none⟩) 1 1) 1 [.slice ap x.params.length cp, .int .i64 x.result, .slice al x.locals.length cl, .slice ac x.code.length cc] := src_new w1 _ [] #[.slice ap x.params.length cp, .int .i64 x.result, .slice al x.locals.length cl, .slice ac x.code.length cc] 50 1 1 (Tch.refl [] _) (by simp); have h1c : ∀ u ∈ ([.slice ap x.params.length cp, .int .i64 x.result, .slice al x.locals.length cl, .slice ac x.code.length cc] : List Value), u.oneCell' = true := (by intro u hu; simp at hu; rcases hu with rfl | rfl | rfl | rfl <;> rfl)))
  all_goals
    go_end0
    obtain ⟨row', o1, o2, o3⟩ := OB.grow (w := w1) (c := 3) (cs := cs) (xs := css.flatten) (news := [.slice ap x.params.length cp, .int .i64 x.result, .slice al x.locals.length cl, .slice ac x.code.length cc]) e1 hne ((Tch.refl [] w1).alloc _) hgrow (xs.length + 1) hown3 hat
    rw [← HR.out] at o2 o3
    have hr' : row' = row ∨ w1.heap.size ≤ row' := o2
    have wid : ∀ i ∈ row' :: row :: M, i < w1.heap.size → i ∈ row :: M := fun i hi hlt => by
      rcases List.mem_cons.1 hi with hi | hi
      · rcases o2 with o2 | o2
        · rw [hi, o2]; simp
        · omega
      · exact hi
    have hin : ∀ i ∈ [g, row], i < w1.heap.size → i ∈ row' :: row :: M := fun i hi _ => by simp at hi ⊢; rcases hi with hi | hi <;> simp [hi, m3]
    have nar : ∀ (W : World), ∀ i ∈ row' :: M, i < W.heap.size → i ∈ row' :: row :: M := fun W i hi _ => by simp at hi ⊢; rcases hi with hi | hi <;> simp [hi]
    refine ⟨rfl, x, st', hgot, row', hlen, ?_, ⟨css ++ [[.slice ap x.params.length cp, .int .i64 x.result, .slice al x.locals.length cl, .slice ac x.code.length cc]], by simp [hcl], ?_, ?_, ?_⟩, ?_, ?_⟩
    · have h1 := hP1.mono (L' := row' :: row :: g :: L) (fun i hi hlt => by
        rcases List.mem_cons.1 hi with hi | hi
        · rcases o2 with o2 | o2
          · rw [hi, o2]; simp
          · omega
        · exact hi)
      have h2 := h1.tch o3 (by simp; omega) (by simp; omega) (fun i hi _ => by simp at hi ⊢; rcases hi with hi | hi <;> simp [hi])
      exact h2.mono (fun i hi _ => by simp at hi ⊢; rcases hi with hi | hi | hi <;> simp [hi])
    · intro d hd
      rcases List.mem_append.1 hd with hd | hd
      · exact hcz d hd
      · simp at hd; subst hd; rfl
    · have e2 : (css ++ [([.slice ap x.params.length cp, .int .i64 x.result, .slice al x.locals.length cl, .slice ac x.code.length cc] : List Value)]).flatten = css.flatten ++ [.slice ap x.params.length cp, .int .i64 x.result, .slice al x.locals.length cl, .slice ac x.code.length cc] := by simp
      have en : (xs ++ [x]).length = xs.length + 1 := by simp
      rw [e2, en]; exact o1
    · intro k d y hkd hky
      by_cases hk : k < css.length
      · rw [List.getElem?_append_left hk] at hkd
        rw [List.getElem?_append_left (by omega)] at hky
        have := hel k d y hkd hky
        exact RMth.mono ((RMth.mono (this.tch t1 (fun i hi _ => by simp at hi ⊢; rcases hi with hi | hi <;> simp [hi, m1, m2])) wid).tch o3 hin) (nar _)
      · have hk2 : k = css.length := by
          have := (List.getElem?_eq_some_iff.1 hkd).1
          simp at this; omega
        subst hk2
        rw [List.getElem?_append_right (Nat.le_refl _)] at hkd
        rw [List.getElem?_append_right (by omega), hcl] at hky
        simp at hkd hky
        subst hkd; subst hky
        exact RMth.mono ((RMth.mono (RMth.mono hrx (fun i hi _ => List.mem_cons_of_mem _ (List.mem_cons_of_mem _ hi))) wid).tch o3 hin) (nar _)
    · rcases o2 with o2 | o2
      · exact .inl o2
      · exact .inr (Nat.le_trans t1.size o2)
    · exact t1.trans o3 (fun i _ hi => by simp at hi ⊢; rcases hi with hi | hi <;> simp [hi]) (fun i _ hi => by simp at hi ⊢; rcases hi with hi | hi <;> simp [hi])
end Go.Proofs.YtapephelfijcbaaGreatDoor
