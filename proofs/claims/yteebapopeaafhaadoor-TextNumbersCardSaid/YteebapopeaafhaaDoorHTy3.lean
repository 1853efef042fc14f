/-
  CONTRACTS: the document's parser: a line: an import. Conditions: utf8's tables as they are laid; sizes.
-/
import Derived.Test.YteebapopeaafhaaDoorHTy2
import Derived.Deep.QuietTactic
import Derived.BigQuiet
namespace Go.Proofs.YteebapopeaafhaaDoor
open Go.RowKit Go.Tcn
set_option linter.unusedVariables false
set_option linter.unusedSimpArgs false
/-- An import's words. -/
def imR (i : Img) (r : List Wd) : Option PR := match r with
  | n :: e :: k :: ps => if UU.isName n = true ∧ 0 ≤ UU.kind k then match UU.num e, kindsP UU ps with
    | some x, some l => some ⟨{ i with imports := i.imports ++ [⟨n, x, l, UU.kind k⟩] }, 3⟩
    | _, _ => none else none
  | _ => none
set_option maxRecDepth 100000 in
set_option maxHeartbeats 8000000 in
theorem rl_import (w : World) (b : Nat) (O : List Nat) (i : Img) (a : Nat) (h : PRx w b O i a) (ha : a ≠ 0 ∧ a ≤ 3) (hsz : i.imports.length ≤ 1099511627776) (a0 : Option Addr) (c0 : Nat) (r : List Wd) (hw : Src w O (.slice a0 (r.length + 1) c0) (r.length + 1) (strs (kImport :: r))) (hl : r.length + 1 ≤ 1099511627776) (hwl : ∀ wd ∈ r, wd.length ≤ 1099511627776) (hV : ValO w O) :
    Calls Tryd.prog 21 #[.pointer (some ⟨b, 0, none⟩), .slice a0 (r.length + 1) c0] w fun e w' => RLTo w w' b O (lineR UU ⟨i, a⟩ (kImport :: r)) e := by
  have hbO := h.b
  have hOl := h.ol
  obtain ⟨ad, rfl, hadl0, hadO, hq⟩ := Src.at hw (j := 0) (by simp)
  rw [Addr_add_zero] at hq
  have hq00 : w.cell? ad = some (.string ⟨(kImport : Wd).toArray⟩) := by simpa [strs] using hq
  clear hq
  obtain ⟨i0, hi, hz0, hz1, hz2⟩ := info_parts info_impT
  obtain ⟨ha, hb⟩ := ha
  have ha0 : ((a : Int) == 0) = false := by simp; omega
  have ha1 : (a == 0) = false := by simp; omega
  have hle3 : decide ((a : Int) ≤ 3) = true := decide_eq_true (by omega)
  have hlf3 : decide (a ≤ 3) = true := decide_eq_true (by omega)
  go_enter Tryd.func21, Tryd.ntmps21
  go_wp2_with fail
  refine (ref_Op kImport w).mono ?_
  rintro e w1 ⟨rfl, t1⟩
  have hadl := Nat.lt_of_lt_of_le hadl0 t1.size
  have hq0 := (t1.cell (p := ad) hadl0 (by simp)).trans hq00
  have hw1 := hw.tch t1 (by simp)
  have tO : Tch O w w1 := t1.nil
  have h1 := h.tch0 t1
  obtain ⟨vf, vi, vm, ve, q1, q2⟩ := (show PRx w1 b O i _ from h1).cells
  obtain ⟨d0, d1, d2, d3, d4, d5, hf⟩ := cells6 q1
  have hb1 := heap_lt q1
  obtain ⟨op, hop⟩ : ∃ op, op = opAt kImport := ⟨_, rfl⟩
  rw [← hop]
  have HOP := Lib.hid hop
  clear hop hq00 hw
  have hR : lineR UU ⟨i, a⟩ (kImport :: r) = imR i r := by
    unfold lineR
    simp only
    rw [if_neg ha, if_neg (fun h => absurd h.1 (by decide)), if_pos (by simp [hb])]
    match r with
    | [] => rfl
    | [_] => rfl
    | [_, _] => rfl
    | _ :: _ :: _ :: _ => rfl
  have HR := Lib.hid (And.intro hR (And.intro tO h1))
  clear hR ha hb
  obtain hl3 | ⟨wd, ew, kw, ps, rfl⟩ : r.length < 3 ∨ ∃ a b c ps, r = a :: b :: c :: ps := by
    match r with
    | [] => exact .inl (by simp)
    | [_] => exact .inl (by simp)
    | [_, _] => exact .inl (by simp)
    | a :: b :: c :: ps => exact .inr ⟨a, b, c, ps, rfl⟩
  · have hq : imR i r = none := by
      match r, hl3 with
      | [], _ => rfl
      | [_], _ => rfl
      | [_, _], _ => rfl
    have hd : decide ((r.length : Int) + 1 < 4) = true := decide_eq_true (by omega)
    have hd2 : decide (r.length + 1 < 4) = true := decide_eq_true (by omega)
    have hd3 : decide (r.length < 3) = true := decide_eq_true (by omega)
    have HH := Lib.hid hq
    clear hq hl3 hw1 h1 h q1 q2 tO t1
    go_wp2_with fail
    go_ret
    rw [HR.out.1, HH.out]
    exact RLTo.no rfl HR.out.2.1
  · have hx1 : w1.cell? ⟨ad.block, ad.off + 1, none⟩ = some (.string ⟨wd.toArray⟩) := words_at (ws := kImport :: wd :: ew :: kw :: ps) hw1 (j := 1) (by simp) (by omega)
    have hx2 : w1.cell? ⟨ad.block, ad.off + 2, none⟩ = some (.string ⟨ew.toArray⟩) := words_at (ws := kImport :: wd :: ew :: kw :: ps) hw1 (j := 2) (by simp) (by omega)
    have hx3 : w1.cell? ⟨ad.block, ad.off + 3, none⟩ = some (.string ⟨kw.toArray⟩) := words_at (ws := kImport :: wd :: ew :: kw :: ps) hw1 (j := 3) (by simp) (by omega)
    obtain ⟨hcut, hsrc⟩ := cut_words (ws := kImport :: wd :: ew :: kw :: ps) hw1 (n := 4) (by simp)
    have e1 : (kImport :: wd :: ew :: kw :: ps).drop 4 = ps := rfl
    rw [e1] at hsrc
    have hlw : (wd :: ew :: kw :: ps).length = ps.length + 3 := rfl
    have hlw2 : (kImport :: wd :: ew :: kw :: ps).length = ps.length + 4 := rfl
    rw [hlw2] at hcut
    rw [hlw] at hl ⊢
    have e2 : ps.length + 4 - 4 = ps.length := rfl
    rw [e2] at hcut
    generalize cutA (some ad) 4 1 c0 = ax at hcut hsrc
    have hcut1 : ∀ w', (Instr.slice 39 (.slice (some ad) (ps.length + 3 + 1) c0) (some (.int .i64 4)) none none).run Tryd.prog w' = .ok (.slice ax ps.length (c0 - 4)) w' := hcut
    clear hcut
    generalize c0 - 4 = c1 at hcut1 hsrc
    have hIs := ref_IsName w1 wd (fun h16 w' t => hV wd w' h16 (tO.trans t (fun _ _ h => h) (by simp)))
    have hN := fun (W : World) => rf_number W ew (hwl ew (by simp))
    have HSR := Lib.hid hsrc
    have hlp : ps.length ≤ 1099511627776 := by omega
    have hd : decide ((ps.length : Int) + 3 + 1 < 4) = false := decide_eq_false (by omega)
    have hd2 : decide (ps.length + 3 + 1 < 4) = false := decide_eq_false (by omega)
    have HT1 := Lib.hid t1
    clear hw1 h1 h q1 q2 hV tO t1 hsrc hwl hlw hlw2 e1 e2
    go_wp2_with fail
    refine hIs.mono ?_
    rintro e w3 ⟨rfl, t3⟩
    clear hIs
    cases hnm : nameB wd
    · have hq : imR i (wd :: ew :: kw :: ps) = none := by
        unfold imR
        simp only
        rw [if_neg (fun h => by have h1 : nameB wd = true := h.1; rw [hnm] at h1; cases h1)]
      have HQ := Lib.hid hq
      clear hq
      go_wp2_with fail
      go_ret
      rw [HR.out.1, HQ.out]
      exact RLTo.no rfl (HR.out.2.1.trans t3 (fun _ _ h => h) (by simp))
    · have g2 := (t3.cell (p := ⟨ad.block, ad.off + 2, none⟩) hadl (by simp)).trans hx2
      have g3 := (t3.cell (p := ⟨ad.block, ad.off + 3, none⟩) hadl (by simp)).trans hx3
      have g1 := (t3.cell (p := ⟨ad.block, ad.off + 1, none⟩) hadl (by simp)).trans hx1
      have HN := Lib.hid hnm
      have HA := Lib.hid hadl
      clear hnm hx1 hx2 hx3 d0 d1 d2 d3 d4 d5 hf hadl hq0
      go_wp2_with fail
      refine (hN w3).mono ?_
      rintro e w4 ⟨rfl, rfl⟩
      rw [numTo_any]
      clear hN
      obtain ⟨x, hx⟩ : ∃ x, x = (numW ew).getD 0 := ⟨_, rfl⟩
      obtain ⟨ok, hok⟩ : ∃ ok, ok = (numW ew).isSome := ⟨_, rfl⟩
      rw [← hx, ← hok]
      have HXO := Lib.hid (And.intro hx hok)
      clear hx hok
      go_wp2_with fail
      refine (rf_Kind w3 kw).mono ?_
      rintro e w5 ⟨rfl, rfl⟩
      have hK := rf_kindsOf w3 O ax c1 ps (HSR.out.tch t3 (by simp)) hlp
      go_wp2_with fail
      refine hK.mono ?_
      rintro e w5 ⟨t5, hk5⟩
      clear hK
      obtain ⟨al, l, cl, rfl, hv, hkl⟩ := kinds_any hk5
      have t35 := t3.then t5
      have l1 := (t5.cell (p := ⟨ad.block, ad.off + 1, none⟩) (Nat.lt_of_lt_of_le HA.out t3.size) (by simp)).trans g1
      clear g1 g2 g3 hk5
      obtain ⟨is, his⟩ : ∃ is, is = (kindsP UU ps).isSome := ⟨_, rfl⟩
      obtain ⟨rr, hrr⟩ : ∃ r, r = kindW kw := ⟨_, rfl⟩
      rw [← his, ← hrr]
      rw [← his] at hkl
      have h5 := HR.out.2.2.tch0 t35
      obtain ⟨vf', vi', vm', ve', q1, q2⟩ := (show PRx w5 b O i a from h5).cells
      obtain ⟨d0, d1, d2, d3, d4, d5, hf⟩ := cells6 q1
      obtain ⟨ics, hown, hneb, hput⟩ := q2.ownI
      have hbnd : i.imports.length + 1 ≤ 9223372036854775807 ∧ (i.imports.length + 1) * 56 ≤ 140737488355328 := by omega
      have hb2 := heap_lt q1
      have hneb' : some b ≠ vi'.ownBlock := fun h => hneb h.symm
      have HK := Lib.hid (And.intro his (And.intro hrr hkl))
      have HQ := Lib.hid (And.intro q1 (And.intro q2 hput))
      have HV := Lib.hid hv
      have H35 := Lib.hid (And.intro t3 t35)
      clear q1 q2 h5 hput his hrr hkl hv t3 t5 t35
      have hbad : ¬ (ok = true ∧ is = true ∧ 0 ≤ rr) → imR i (wd :: ew :: kw :: ps) = none := by
        intro hall
        obtain ⟨hx, hok⟩ := HXO.out
        obtain ⟨his, hrr, hkl⟩ := HK.out
        unfold imR
        simp only
        by_cases h0 : 0 ≤ rr
        · rw [if_pos ⟨HN.out, by show 0 ≤ kindW kw; rw [← hrr]; exact h0⟩]
          have h1 : UU.num ew = numW ew := rfl
          rw [h1]
          cases hn : numW ew with
          | none => rfl
          | some y =>
            cases hp : kindsP UU ps with
            | none => rfl
            | some l' =>
              rw [hn] at hok; rw [hp] at his
              exact absurd ⟨hok, his, h0⟩ hall
        · rw [if_neg (fun h => h0 (by rw [hrr]; exact h.2))]
      have HBAD := Lib.hid hbad
      clear hbad
      cases ok
      · go_wp2_with fail
        go_ret
        rw [HR.out.1, HBAD.out (by simp)]
        exact RLTo.no rfl (HR.out.2.1.trans H35.out.2 (fun _ _ h => h) (by simp))
      · by_cases hr0 : rr < 0
        · have hdr : decide (rr < 0) = true := decide_eq_true hr0
          have HR0 := Lib.hid hr0
          clear hr0
          go_wp2_with fail
          go_ret
          rw [HR.out.1, HBAD.out (by have := HR0.out; omega)]
          exact RLTo.no rfl (HR.out.2.1.trans H35.out.2 (fun _ _ h => h) (by simp))
        · have hdr : decide (rr < 0) = false := decide_eq_false hr0
          have HR0 := Lib.hid hr0
          clear hr0
          cases is
          · go_wp2_with fail
            go_ret
            rw [HR.out.1, HBAD.out (by simp)]
            exact RLTo.no rfl (HR.out.2.1.trans H35.out.2 (fun _ _ h => h) (by simp))
          · have hbd1 : (1 : Int) < (ps.length : Int) + 3 + 1 := by omega
            go_wp2_with fail
            go_region_law (first | (refine step_append_any _ rfl (.tmp 155) (.tmp 163) 26 rfl 57 i0 (.agg #[.string ⟨#[]⟩, .int .i64 0, .slice none 0 0, .int .i64 0]) 4 56 Tryd.underlying26 hi hz0 hz1 hz2 rfl (by decide) vi' i.imports.length ics rfl (hown.alloc _).drew [] _ 1 [.string ⟨wd.toArray⟩, .int .i64 x, .slice al l.length cl, .int .i64 rr] rfl (src_new w5 _ [] #[.string ⟨wd.toArray⟩, .int .i64 x, .slice al l.length cl, .int .i64 rr] _ 1 1 (Tch.refl [] _).drew (by simp)) rfl (one_imp _ _ _ _ _ _) hbnd ?_; intro ao cap2 w6 hown6 hgrow6 hat6; have e6 : w6.cell? ⟨b, 2, none⟩ = some vi' := (hgrow6.cell_far ⟨b, 2, none⟩ (by simp; omega) hneb').trans ((World.cell?_alloc_past _ _ _ hb2).trans d2); have f6 : ∀ j, w6.frozen? ⟨b, j, none⟩ = false := (fun j => (hgrow6.frozen_far ⟨b, j, none⟩ (by simp; omega) hneb').trans ((World.frozen?_alloc_past _ _ _ hb2).trans (hf j)))))
            all_goals
              have e65 : w6.cell? ⟨b, 5, none⟩ = some (.int .i64 a) := (hgrow6.cell_far ⟨b, 5, none⟩ (by simp; omega) hneb').trans ((World.cell?_alloc_past _ _ _ hb2).trans d5)
              go_wp2_with fail
              go_ret
              obtain ⟨q1, q2, _⟩ := HQ.out
              obtain ⟨hR, tO, h1⟩ := HR.out
              obtain ⟨t3, t35⟩ := H35.out
              have ta : Tch [] w5 ((w5.alloc (.cells #[.string ⟨wd.toArray⟩, .int .i64 x, .slice al l.length cl, .int .i64 rr] 57)).drew) := ((Tch.refl [] w5).alloc _).drew
              obtain ⟨ics2, o2, _, hput⟩ := (q2.tch0 ta).ownI
              have hmc : ics2 = ics := own_cells o2 (hown.alloc _).drew
              subst hmc
              have hRl : RInts ((w5.alloc (.cells #[.string ⟨wd.toArray⟩, .int .i64 x, .slice al l.length cl, .int .i64 rr] 57)).drew) O (.slice al l.length cl) l := (HV.out.tch ta).src O (fun k hk => by
                have := hOl k hk
                have h34 := t3.size
                have h11 := HT1.out.size
                omega)
              have hb2a := Nat.lt_of_lt_of_le hb2 ta.size
              obtain ⟨O', g1, g2, g3⟩ := PR1.put ((ta.block b hb2 (by simp)).trans q1) (hput w6 (.slice ao (i.imports.length + 1) cap2) (.slice al l.length cl) ⟨wd, x, l, rr⟩ _ hb2a ⟨hown6, hgrow6, hat6⟩ hRl) (hgrow6.block b hb2a hneb') hbO 2 (.slice ao (i.imports.length + 1) cap2) 3 rfl
              obtain ⟨hx, hok⟩ := HXO.out
              obtain ⟨his, hrr, hkl⟩ := HK.out
              have hnum : numW ew = some x := by
                obtain ⟨y, hy⟩ := Option.isSome_iff_exists.1 hok.symm
                rw [hx, hy]; rfl
              have hq : imR i (wd :: ew :: kw :: ps) = some ⟨{ i with imports := i.imports ++ [⟨wd, x, l, rr⟩] }, 3⟩ := by
                unfold imR
                simp only
                rw [if_pos ⟨HN.out, by show 0 ≤ kindW kw; rw [← hrr]; have := HR0.out; omega⟩]
                have h1 : UU.num ew = some x := hnum
                have h2 : kindsP UU ps = some l := hkl (by first | trivial | rfl)
                rw [h1, h2]
                show some _ = some _
                rw [hrr]; rfl
              rw [hR, hq]
              exact RLTo.yes rfl (tO.trans (t35.then ta) (fun _ _ h => h) (by simp)) g1 g2 g3
end Go.Proofs.YteebapopeaafhaaDoor
