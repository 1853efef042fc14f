/-
  CONTRACTS: text's parser: an import. Conditions: utf8's tables as they are laid; sizes.
-/
import Derived.Test.YteebapopeaafhaaDoorHTx5
namespace Go.Proofs.YteebapopeaafhaaDoor
open Go.RowKit Go.Tcn
set_option linter.unusedVariables false
set_option linter.unusedSimpArgs false
theorem numTo_any (w : Wd) : numTo w = .tuple #[.int .i64 ((numW w).getD 0), .bool (numW w).isSome] := by
  unfold numTo
  cases numW w <;> rfl
/-- What kinds hands back, whatever it is. -/
theorem kinds_any {w w' : World} {ws : List Wd} {e : Ending} (h : KindsTo 3 w w' ws e) : ∃ al l cl, e = .returned (.tuple #[.slice al l.length cl, .bool (kindsP UU ws).isSome]) ∧ NewRow w w' 3 1 (.slice al l.length cl) l.length (ints l) ∧ ((kindsP UU ws).isSome = true → kindsP UU ws = some l) := by
  unfold KindsTo at h
  cases hk : kindsP UU ws with
  | none =>
    rw [hk] at h
    exact ⟨none, [], 0, h, NewRow.nil _ _ _ _, by simp⟩
  | some l =>
    rw [hk] at h
    obtain ⟨v, rfl, hv⟩ := h
    obtain ⟨al, cl, rfl⟩ := ownsRow_form hv.1
    exact ⟨al, l, cl, rfl, hv, fun _ => rfl⟩
/-- utf8.ValidString's contract in all worlds in which only the blocks of O have turned. -/
def ValO (w : World) (O : List Nat) : Prop := ∀ nm w', nm.length ≤ 16 → Tch O w w' → Calls Tryd.prog 66 #[.string ⟨nm.toArray⟩] w' fun e w'' => e = .returned (.bool (Lib.validD nm)) ∧ Tch [] w' w''
theorem ValO.c {w : World} {O : List Nat} (h : ValO w O) : ValC w := fun nm w' hn t => h nm w' hn t.nil
theorem ValO.step {w w' : World} {O O' : List Nat} (h : ValO w O) (t : Tch O w w') (n : NewL w O O') : ValO w' O' := fun nm w'' hn t' => h nm w'' hn (t.step t' n)
theorem ValO.of {w w' : World} {O : List Nat} (h : ValC w) (t : Tch [] w w') (hO : ∀ k ∈ O, w.heap.size ≤ k) : ValO w' O := fun nm w'' hn t' => h nm w'' hn (t.trans t' (by simp) (fun k hk hx => by have := hO k hx; omega))
theorem one_imp (nm : Wd) (x r : Int) (al : Option Addr) (n c : Nat) : ∀ u ∈ [Value.string ⟨nm.toArray⟩, .int .i64 x, .slice al n c, .int .i64 r], u.oneCell' = true := by
  intro u hu
  simp at hu
  rcases hu with rfl | rfl | rfl | rfl <;> rfl
set_option maxRecDepth 100000 in
set_option maxHeartbeats 8000000 in
theorem tx_import (w : World) (b : Nat) (O : List Nat) (i : Img) (s : Nat) (f : Bool) (h : PTx w b O i s f) (hsz : i.imports.length ≤ 1099511627776) (a0 : Option Addr) (c0 : Nat) (ws : List Wd) (hw : Src w O (.slice a0 ws.length c0) ws.length (strs ws)) (hl : ws.length ≤ 1099511627776) (hwl : ∀ wd ∈ ws, wd.length ≤ 1099511627776) (hV : ValO w O) :
    Calls Tryd.prog 33 #[.pointer (some ⟨b, 0, none⟩), .slice a0 ws.length c0] w fun e w' => STx w w' b O f (importT UU i s ws) e := by
  obtain ⟨i0, hi, hz0, hz1, hz2⟩ := info_parts info_impT
  have hr := tx_reach w b O i s 2 f h
  have hbl := h.lt
  have hbO := h.b
  clear h
  go_enter Tryd.func33, Tryd.ntmps33
  go_wp2_with fail
  refine hr.mono ?_
  rintro e w2 ⟨rfl, t2, h2⟩
  have tt : Tch O w w2 := t2.mono (fun k _ hk => by simp at hk; subst hk; exact hbO)
  clear hr
  cases hrb : reachB i s 2
  · have hq : importT UU i s ws = none := by unfold importT; rw [if_pos (reach_no hrb)]
    have HH := Lib.hid (And.intro hq (And.intro tt h2.sh))
    clear hq tt h2 t2
    go_wp2_with fail
    go_ret
    rw [HH.out.1]
    exact STx.no rfl HH.out.2.2 HH.out.2.1
  · rw [hrb, if_pos rfl] at h2
    have HR := Lib.hid (reach_yes hrb)
    have hw2 := hw.tch t2 (fun k hk _ => by simp at hk; subst hk; exact hbO)
    obtain hl3 | ⟨wd, ew, kw, ps, rfl⟩ : ws.length < 3 ∨ ∃ a b c ps, ws = a :: b :: c :: ps := by
      match ws with
      | [] => exact .inl (by simp)
      | [_] => exact .inl (by simp)
      | [_, _] => exact .inl (by simp)
      | a :: b :: c :: ps => exact .inr ⟨a, b, c, ps, rfl⟩
    · have hq : importT UU i s ws = none := by
        unfold importT; rw [if_neg HR.out]
        match ws, hl3 with
        | [], _ => rfl
        | [_], _ => rfl
        | [_, _], _ => rfl
      have hd : decide ((ws.length : Int) < 3) = true := decide_eq_true (by omega)
      have HH := Lib.hid (And.intro hq (And.intro tt h2.sh))
      clear hq tt h2 t2 hl3
      go_wp2_with fail
      go_ret
      rw [HH.out.1]
      exact STx.no rfl HH.out.2.2 HH.out.2.1
    · have hat : ∀ j, j < 3 → (wd :: ew :: kw :: ps).length = ps.length + 3 := fun _ _ => rfl
      have hlw : (wd :: ew :: kw :: ps).length = ps.length + 3 := rfl
      obtain ⟨ad, rfl, hadl, hadO, hq⟩ := Src.at hw2 (j := 0) (by simp)
      obtain ⟨ad1, e1, _, _, hq1⟩ := Src.at hw2 (j := 1) (by simp)
      obtain ⟨ad2, e2, _, _, hq2⟩ := Src.at hw2 (j := 2) (by simp)
      simp only [Option.some.injEq] at e1 e2
      subst e1 e2
      rw [Addr_add_zero] at hq
      have hw0 : w2.cell? ad = some (.string ⟨wd.toArray⟩) := by simpa [strs] using hq
      have hw1 : w2.cell? (ad.add 1) = some (.string ⟨ew.toArray⟩) := by simpa [strs] using hq1
      have hw2' : w2.cell? (ad.add 2) = some (.string ⟨kw.toArray⟩) := by simpa [strs] using hq2
      have ha1 : ad.add 1 = ⟨ad.block, ad.off + 1, none⟩ := by simp [Addr.add]
      have ha2 : ad.add 2 = ⟨ad.block, ad.off + 2, none⟩ := by simp [Addr.add]
      rw [ha1] at hw1
      rw [ha2] at hw2'
      obtain ⟨hcut, hsrc⟩ := cut_words hw2 (n := 3) (by simp)
      have e1 : (wd :: ew :: kw :: ps).drop 3 = ps := rfl
      rw [e1] at hsrc
      rw [hlw] at hcut hl
      have e2 : ps.length + 3 - 3 = ps.length := rfl
      rw [e2] at hcut
      generalize cutA (some ad) 3 1 c0 = ax at hcut hsrc
      have hcut1 : ∀ w', (Instr.slice 39 (.slice (some ad) (ps.length + 3) c0) (some (.int .i64 3)) none none).run Tryd.prog w' = .ok (.slice ax ps.length (c0 - 3)) w' := hcut
      clear hcut
      generalize c0 - 3 = c1 at hcut1 hsrc
      have hIs := im_IsName w2 wd (fun h16 w' t => hV wd w' h16 (tt.trans t (fun _ _ h => h) (by simp)))
      have hN := fun (W : World) => tx_number lib_Cut W ew (hwl ew (by simp))
      have hOl : ∀ k ∈ O, k < w2.heap.size := by
        obtain ⟨_, _, _, _, _, hio⟩ := (show PTx w2 b O i 2 f from h2).cells
        exact hio.lt h2.lt
      have HT := Lib.hid (And.intro tt (And.intro hOl h2))
      have HSR := Lib.hid hsrc
      have hlp : ps.length ≤ 1099511627776 := by omega
      clear hq hq1 hq2 hat hw hw2 hV tt t2 h2 hsrc ha1 ha2 hwl hOl
      go_wp2_with fail
      refine hIs.mono ?_
      rintro e w3 ⟨rfl, t3⟩
      clear hIs
      cases hnm : nameB wd
      · have hq : importT UU i s (wd :: ew :: kw :: ps) = none := by
          unfold importT; rw [if_neg HR.out]
          simp only
          rw [if_neg (fun h => by have h1 : nameB wd = true := h.1; rw [hnm] at h1; cases h1)]
        have HQ := Lib.hid hq
        clear hq
        go_wp2_with fail
        go_ret
        rw [HQ.out]
        exact STx.no rfl (HT.out.2.2.tch0 t3).sh (HT.out.1.trans t3 (fun _ _ h => h) (by simp))
      · have g1 := (t3.cell (p := ⟨ad.block, ad.off + 1, none⟩) hadl (by simp)).trans hw1
        have g2 := (t3.cell (p := ⟨ad.block, ad.off + 2, none⟩) hadl (by simp)).trans hw2'
        have g0 := (t3.cell (p := ad) hadl (by simp)).trans hw0
        have HN := Lib.hid hnm
        have HA := Lib.hid hadl
        clear hnm hw0 hw1 hw2'
        go_wp2_with fail
        refine (hN w3).mono ?_
        rintro e w4 ⟨rfl, t4⟩
        rw [numTo_any]
        have hal3 := Nat.lt_of_lt_of_le HA.out t3.size
        have k2 := (t4.cell (p := ⟨ad.block, ad.off + 2, none⟩) hal3 (by simp)).trans g2
        have k0 := (t4.cell (p := ad) hal3 (by simp)).trans g0
        clear hN g0 g1 g2
        obtain ⟨x, hx⟩ : ∃ x, x = (numW ew).getD 0 := ⟨_, rfl⟩
        obtain ⟨ok, hok⟩ : ∃ ok, ok = (numW ew).isSome := ⟨_, rfl⟩
        rw [← hx, ← hok]
        have HXO := Lib.hid (And.intro hx hok)
        clear hx hok
        go_wp2_with fail
        refine (tx_Kind w4 kw).mono ?_
        rintro e w5 ⟨rfl, rfl⟩
        have t34 := t3.then t4
        have hK := tx_kinds w4 O ax c1 ps (HSR.out.tch t34 (by simp)) hlp
        go_wp2_with fail
        refine hK.mono ?_
        rintro e w5 ⟨t5, hk5⟩
        clear hK
        obtain ⟨al, l, cl, rfl, hv, hkl⟩ := kinds_any hk5
        have t35 := t34.then t5
        have l0 := (t5.cell (p := ad) (Nat.lt_of_lt_of_le hal3 t4.size) (by simp)).trans k0
        clear k0 k2 hk5
        obtain ⟨is, his⟩ : ∃ is, is = (kindsP UU ps).isSome := ⟨_, rfl⟩
        obtain ⟨r, hrr⟩ : ∃ r, r = kindW kw := ⟨_, rfl⟩
        rw [← his, ← hrr]
        rw [← his] at hkl
        have h5 := HT.out.2.2.tch0 t35
        obtain ⟨vf, vi, vm, ve, q1, q2⟩ := (show PTx w5 b O i 2 f from h5).cells
        obtain ⟨d0, d1, d2, d3, d4, d5, d6, hf⟩ := cells7 q1
        obtain ⟨ics, hown, hneb, hput⟩ := q2.ownI
        have hbnd : i.imports.length + 1 ≤ 9223372036854775807 ∧ (i.imports.length + 1) * 56 ≤ 140737488355328 := by omega
        have hb2 := heap_lt q1
        have hneb' : some b ≠ vi.ownBlock := fun h => hneb h.symm
        have HK := Lib.hid (And.intro his (And.intro hrr hkl))
        have HQ := Lib.hid (And.intro q1 (And.intro q2 hput))
        have HV := Lib.hid hv
        have H35 := Lib.hid t35
        have H4 := Lib.hid t34
        clear q1 q2 h5 hput his hrr hkl hv t3 t4 t5 t34 t35
        have hfin : ∀ (ao : Option Addr) (cap2 : Nat) (w6 : World), w6.ownsRow 0 57 4 (.slice ao (i.imports.length + 1) cap2) (i.imports.length + 1) (ics ++ [.string ⟨wd.toArray⟩, .int .i64 x, .slice al l.length cl, .int .i64 r]) → ((w5.alloc (.cells #[.string ⟨wd.toArray⟩, .int .i64 x, .slice al l.length cl, .int .i64 r] 57)).drew).grownBy w6 vi.ownBlock →
            ((Value.slice ao (i.imports.length + 1) cap2).ownBlock = vi.ownBlock ∨ (Value.slice ao (i.imports.length + 1) cap2).ownBlock = some ((w5.alloc (.cells #[.string ⟨wd.toArray⟩, .int .i64 x, .slice al l.length cl, .int .i64 r] 57)).drew).heap.size) →
            ∀ e, e = .returned (.bool (ok && is && decide (0 ≤ r))) → STx w (w6.setCell ⟨b, 2, none⟩ (.slice ao (i.imports.length + 1) cap2)) b O f (importT UU i s (wd :: ew :: kw :: ps)) e := by
          intro ao cap2 w6 hown6 hgrow6 hat6 e he
          obtain ⟨q1, q2, _⟩ := HQ.out
          obtain ⟨tt, hOl, h2⟩ := HT.out
          have ta : Tch [] w5 ((w5.alloc (.cells #[.string ⟨wd.toArray⟩, .int .i64 x, .slice al l.length cl, .int .i64 r] 57)).drew) := ((Tch.refl [] w5).alloc _).drew
          obtain ⟨ics2, o2, _, hput⟩ := (q2.tch0 ta).ownI
          have hmc : ics2 = ics := own_cells o2 (hown.alloc _).drew
          subst hmc
          have hRl : RInts ((w5.alloc (.cells #[.string ⟨wd.toArray⟩, .int .i64 x, .slice al l.length cl, .int .i64 r] 57)).drew) O (.slice al l.length cl) l := (HV.out.tch ta).src O (fun k hk => by
            have := hOl k hk
            have h34 := H4.out.size
            omega)
          have hb2a := Nat.lt_of_lt_of_le hb2 ta.size
          obtain ⟨O', g1, g2, g3⟩ := PT1.put ((ta.block b hb2 (by simp)).trans q1) (hput w6 (.slice ao (i.imports.length + 1) cap2) (.slice al l.length cl) ⟨wd, x, l, r⟩ _ hb2a ⟨hown6, hgrow6, hat6⟩ hRl) (hgrow6.block b hb2a hneb') hbO 2 (.slice ao (i.imports.length + 1) cap2) rfl
          have tz : Tch O w ((w5.alloc (.cells #[.string ⟨wd.toArray⟩, .int .i64 x, .slice al l.length cl, .int .i64 r] 57)).drew) := tt.trans (H35.out.then ta) (fun _ _ h => h) (by simp)
          obtain ⟨hx, hok⟩ := HXO.out
          obtain ⟨his, hrr, hkl⟩ := HK.out
          have hwN : UU.isName wd = true := HN.out
          by_cases hall : ok = true ∧ is = true ∧ 0 ≤ r
          · obtain ⟨a1, a2, a3⟩ := hall
            have hnum : numW ew = some x := by
              rw [a1] at hok
              obtain ⟨y, hy⟩ := Option.isSome_iff_exists.1 hok.symm
              rw [hx, hy]; rfl
            have hq : importT UU i s (wd :: ew :: kw :: ps) = some ({ i with imports := i.imports ++ [⟨wd, x, l, r⟩] }, 2) := by
              unfold importT; rw [if_neg HR.out]
              simp only
              rw [if_pos ⟨hwN, by show 0 ≤ kindW kw; rw [← hrr]; exact a3⟩]
              have h1 : UU.num ew = some x := hnum
              have h2 : kindsP UU ps = some l := hkl a2
              rw [h1, h2]
              show some _ = some _
              rw [hrr]; rfl
            rw [hq]
            exact STx.go (by rw [he, a1, a2, decide_eq_true a3]; rfl) g1 tz g2 g3
          · have hq : importT UU i s (wd :: ew :: kw :: ps) = none := by
              unfold importT; rw [if_neg HR.out]
              simp only
              by_cases h0 : 0 ≤ r
              · rw [if_pos ⟨hwN, by show 0 ≤ kindW kw; rw [← hrr]; exact h0⟩]
                have h1 : UU.num ew = numW ew := rfl
                rw [h1]
                cases hn : numW ew with
                | none => rfl
                | some y =>
                  cases hp : kindsP UU ps with
                  | none => rfl
                  | some l' =>
                    rw [hn] at hok; rw [hp] at his
                    exact absurd ⟨hok, his, h0⟩ hall
              · rw [if_neg (fun h => h0 (by rw [hrr]; exact h.2))]
            have hb : (ok && is && decide (0 ≤ r)) = false := by
              cases ok <;> cases is <;> simp at hall ⊢
              omega
            rw [hq]
            exact STx.no (by rw [he, hb]) g1.sh (tz.trans g2 (fun _ _ h => h) (fun _ _ h => h))
        have HF := Lib.hid hfin
        clear hfin
        go_wp2_with fail
        go_region_law (first | (refine step_append_any _ rfl (.tmp 47) (.tmp 55) 26 rfl 57 i0 (.agg #[.string ⟨#[]⟩, .int .i64 0, .slice none 0 0, .int .i64 0]) 4 56 Tryd.underlying26 hi hz0 hz1 hz2 rfl (by decide) vi i.imports.length ics rfl (hown.alloc _).drew [] _ 1 [.string ⟨wd.toArray⟩, .int .i64 x, .slice al l.length cl, .int .i64 r] rfl (src_new w5 _ [] #[.string ⟨wd.toArray⟩, .int .i64 x, .slice al l.length cl, .int .i64 r] _ 1 1 (Tch.refl [] _).drew (by simp)) rfl (one_imp _ _ _ _ _ _) hbnd ?_; intro ao cap2 w6 hown6 hgrow6 hat6; have e6 : w6.cell? ⟨b, 2, none⟩ = some vi := (hgrow6.cell_far ⟨b, 2, none⟩ (by simp; omega) hneb').trans ((World.cell?_alloc_past _ _ _ hb2).trans d2); have f6 : w6.frozen? ⟨b, 2, none⟩ = false := (hgrow6.frozen_far ⟨b, 2, none⟩ (by simp; omega) hneb').trans ((World.frozen?_alloc_past _ _ _ hb2).trans (hf 2))))
        all_goals
          clear e6 f6
          cases ok
          · go_wp2_with fail
            go_ret
            exact HF.out _ _ _ hown6 hgrow6 hat6 _ rfl
          · cases is
            · go_wp2_with fail
              go_ret
              exact HF.out _ _ _ hown6 hgrow6 hat6 _ rfl
            · go_wp2_with fail
              go_ret
              exact HF.out _ _ _ hown6 hgrow6 hat6 _ rfl
end Go.Proofs.YteebapopeaafhaaDoor
