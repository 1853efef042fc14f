/-
  CONTRACTS: the document's parser: a line: a method. Conditions: utf8's tables as they are laid; sizes.
-/
import Derived.Test.YteebapopeaafhaaDoorHTy3
import Derived.Deep.QuietTactic
import Derived.BigQuiet
namespace Go.Proofs.YteebapopeaafhaaDoor
open Go.RowKit Go.Tcn
set_option linter.unusedVariables false
set_option linter.unusedSimpArgs false
/-- A method's words. -/
def meR (i : Img) (r : List Wd) : Option PR := match r with
  | k :: ps => if 0 ≤ UU.kind k then match kindsP UU ps with
    | some l => some ⟨{ i with methods := i.methods ++ [⟨l, UU.kind k, [], []⟩] }, 4⟩
    | none => none else none
  | _ => none
set_option maxRecDepth 100000 in
set_option maxHeartbeats 8000000 in
theorem rl_method (w : World) (b : Nat) (O : List Nat) (i : Img) (a : Nat) (h : PRx w b O i a) (ha : a ≠ 0 ∧ a ≤ 6) (hsz : i.methods.length ≤ 1099511627776) (a0 : Option Addr) (c0 : Nat) (r : List Wd) (hw : Src w O (.slice a0 (r.length + 1) c0) (r.length + 1) (strs (kMethod :: r))) (hl : r.length + 1 ≤ 1099511627776) (hwl : ∀ wd ∈ r, wd.length ≤ 1099511627776) (hV : ValO w O) :
    Calls Tryd.prog 21 #[.pointer (some ⟨b, 0, none⟩), .slice a0 (r.length + 1) c0] w fun e w' => RLTo w w' b O (lineR UU ⟨i, a⟩ (kMethod :: r)) e := by
  have hbO := h.b
  have hOl := h.ol
  obtain ⟨ad, rfl, hadl0, hadO, hq⟩ := Src.at hw (j := 0) (by simp)
  rw [Addr_add_zero] at hq
  have hq00 : w.cell? ad = some (.string ⟨(kMethod : Wd).toArray⟩) := by simpa [strs] using hq
  clear hq
  obtain ⟨i0, hi, hz0, hz1, hz2⟩ := info_parts info_mthT
  obtain ⟨ha, hb⟩ := ha
  have ha0 : ((a : Int) == 0) = false := by simp; omega
  have ha1 : (a == 0) = false := by simp; omega
  have hle6 : decide ((a : Int) ≤ 6) = true := decide_eq_true (by omega)
  have hlf6 : decide (a ≤ 6) = true := decide_eq_true (by omega)
  go_enter Tryd.func21, Tryd.ntmps21
  go_wp2_with fail
  refine (ref_Op kMethod w).mono ?_
  rintro e w1 ⟨rfl, t1⟩
  have hadl := Nat.lt_of_lt_of_le hadl0 t1.size
  have hq0 := (t1.cell (p := ad) hadl0 (by simp)).trans hq00
  have hw1 := hw.tch t1 (by simp)
  have tO : Tch O w w1 := t1.nil
  have h1 := h.tch0 t1
  obtain ⟨vf, vi, vm, ve, q1, q2⟩ := (show PRx w1 b O i _ from h1).cells
  obtain ⟨d0, d1, d2, d3, d4, d5, hf⟩ := cells6 q1
  have hb1 := heap_lt q1
  obtain ⟨op, hop⟩ : ∃ op, op = opAt kMethod := ⟨_, rfl⟩
  rw [← hop]
  have HOP := Lib.hid hop
  clear hop hq00 hw
  have hR : lineR UU ⟨i, a⟩ (kMethod :: r) = meR i r := by
    unfold lineR
    simp only
    rw [if_neg ha, if_neg (fun h => absurd h.1 (by decide)), if_neg (fun h => absurd h.1 (by decide)), if_pos (by simp [hb])]
    match r with
    | [] => rfl
    | _ :: _ => rfl
  have HR := Lib.hid (And.intro hR (And.intro tO h1))
  clear hR ha hb
  obtain rfl | ⟨wd, ps, rfl⟩ : r = [] ∨ ∃ a ps, r = a :: ps := by
    cases r with
    | nil => exact .inl rfl
    | cons a l => exact .inr ⟨a, l, rfl⟩
  · have hq : meR i [] = none := rfl
    have HH := Lib.hid hq
    clear hq hw1 h1 h q1 q2 tO t1
    go_wp2_with fail
    go_ret
    rw [HR.out.1, HH.out]
    exact RLTo.no rfl HR.out.2.1
  · have hx1 : w1.cell? ⟨ad.block, ad.off + 1, none⟩ = some (.string ⟨wd.toArray⟩) := words_at (ws := kMethod :: wd :: ps) hw1 (j := 1) (by simp) (by omega)
    obtain ⟨hcut, hsrc⟩ := cut_words (ws := kMethod :: wd :: ps) hw1 (n := 2) (by simp)
    have e1 : (kMethod :: wd :: ps).drop 2 = ps := rfl
    rw [e1] at hsrc
    have hlw : (wd :: ps).length = ps.length + 1 := rfl
    have hlw2 : (kMethod :: wd :: ps).length = ps.length + 2 := rfl
    rw [hlw2] at hcut
    rw [hlw] at hl ⊢
    have e2 : ps.length + 2 - 2 = ps.length := rfl
    rw [e2] at hcut
    generalize cutA (some ad) 2 1 c0 = ax at hcut hsrc
    have hcut1 : ∀ w', (Instr.slice 39 (.slice (some ad) (ps.length + 1 + 1) c0) (some (.int .i64 2)) none none).run Tryd.prog w' = .ok (.slice ax ps.length (c0 - 2)) w' := hcut
    clear hcut
    generalize c0 - 2 = c1 at hcut1 hsrc
    have hK := rf_kindsOf w1 O ax c1 ps hsrc (by omega)
    have hd : decide ((ps.length : Int) + 1 + 1 < 2) = false := decide_eq_false (by omega)
    have hd2 : decide (ps.length + 1 + 1 < 2) = false := decide_eq_false (by omega)
    have hbd1 : (1 : Int) < (ps.length : Int) + 1 + 1 := by omega
    have HT1 := Lib.hid t1
    clear hw1 h1 h q1 q2 hV tO t1 hsrc hwl hlw hlw2 e1 e2
    go_wp2_with fail
    refine (rf_Kind w1 wd).mono ?_
    rintro e w2 ⟨rfl, rfl⟩
    obtain ⟨rr, hrr⟩ : ∃ r, r = kindW wd := ⟨_, rfl⟩
    rw [← hrr]
    by_cases hr0 : rr < 0
    · have hdr : decide (rr < 0) = true := decide_eq_true hr0
      have hq : meR i (wd :: ps) = none := by
        unfold meR
        simp only
        rw [if_neg (fun h => by have h1 : 0 ≤ kindW wd := h; omega)]
      have HQ := Lib.hid hq
      clear hq hr0 hrr hK
      go_wp2_with fail
      go_ret
      rw [HR.out.1, HQ.out]
      exact RLTo.no rfl HR.out.2.1
    · have hdr : decide (rr < 0) = false := decide_eq_false hr0
      have HR0 := Lib.hid hr0
      have HRR := Lib.hid hrr
      clear hr0 hrr d0 d1 d2 d3 d4 d5 hf
      go_wp2_with fail
      refine hK.mono ?_
      rintro e w3 ⟨t3, hk3⟩
      clear hK
      obtain ⟨al, l, cl, rfl, hv, hkl⟩ := kinds_any hk3
      clear hk3
      obtain ⟨is, his⟩ : ∃ is, is = (kindsP UU ps).isSome := ⟨_, rfl⟩
      rw [← his]
      rw [← his] at hkl
      cases is
      · have hq : meR i (wd :: ps) = none := by
          unfold meR
          simp only
          cases hp : kindsP UU ps with
          | none => split <;> rfl
          | some l' => rw [hp] at his; cases his
        have HQ := Lib.hid hq
        clear hq hkl his hv
        go_wp2_with fail
        go_ret
        rw [HR.out.1, HQ.out]
        exact RLTo.no rfl (HR.out.2.1.trans t3 (fun _ _ h => h) (by simp))
      · have hkl := hkl rfl
        have l1 := (t3.cell (p := ⟨ad.block, ad.off + 1, none⟩) hadl (by simp)).trans hx1
        have h5 := HR.out.2.2.tch0 t3
        obtain ⟨vf', vi', vm', ve', q1, q2⟩ := (show PRx w3 b O i a from h5).cells
        obtain ⟨d0, d1, d2, d3, d4, d5, hf⟩ := cells6 q1
        obtain ⟨mcs, hown, hneb, hput⟩ := q2.ownM
        have hbnd : i.methods.length + 1 ≤ 9223372036854775807 ∧ (i.methods.length + 1) * 80 ≤ 140737488355328 := by omega
        have hb2 := heap_lt q1
        have hneb' : some b ≠ vm'.ownBlock := fun h => hneb h.symm
        have HQ := Lib.hid (And.intro q1 (And.intro q2 hput))
        have HV := Lib.hid (And.intro hv hkl)
        have H3 := Lib.hid t3
        have hKd := fun (W : World) => rf_Kind W wd
        rw [← HRR.out] at hKd
        clear q1 q2 h5 hput hv t3 hx1 hkl his
        go_wp2_with fail
        go_region_law (first | (refine step_append_any _ rfl (.tmp 206) (.tmp 213) 27 rfl 52 i0 (.agg #[.slice none 0 0, .int .i64 0, .slice none 0 0, .slice none 0 0]) 4 80 Tryd.underlying27 hi hz0 hz1 hz2 rfl (by decide) vm' i.methods.length mcs rfl (hown.alloc _).drew [] _ 1 [.slice al l.length cl, .int .i64 rr, .slice none 0 0, .slice none 0 0] rfl (src_new w3 _ [] #[.slice al l.length cl, .int .i64 rr, .slice none 0 0, .slice none 0 0] _ 1 1 (Tch.refl [] _).drew (by simp)) rfl (one_mth _ _ _ _) hbnd ?_; intro ao cap2 w6 hown6 hgrow6 hat6; have e6 : w6.cell? ⟨b, 3, none⟩ = some vm' := (hgrow6.cell_far ⟨b, 3, none⟩ (by simp; omega) hneb').trans ((World.cell?_alloc_past _ _ _ hb2).trans d3); have f6 : ∀ j, w6.frozen? ⟨b, j, none⟩ = false := (fun j => (hgrow6.frozen_far ⟨b, j, none⟩ (by simp; omega) hneb').trans ((World.frozen?_alloc_past _ _ _ hb2).trans (hf j)))) | (go_simp; go_at_call 12; refine (hKd _).mono ?_; rintro e w' ⟨rfl, rfl⟩))
        all_goals
          have e65 : w6.cell? ⟨b, 5, none⟩ = some (.int .i64 a) := (hgrow6.cell_far ⟨b, 5, none⟩ (by simp; omega) hneb').trans ((World.cell?_alloc_past _ _ _ hb2).trans d5)
          go_wp2_with fail
          go_ret
          obtain ⟨q1, q2, _⟩ := HQ.out
          obtain ⟨hR, tO, h1⟩ := HR.out
          have ta : Tch [] w3 ((w3.alloc (.cells #[.slice al l.length cl, .int .i64 rr, .slice none 0 0, .slice none 0 0] 52)).drew) := ((Tch.refl [] w3).alloc _).drew
          obtain ⟨mcs2, o2, _, hput⟩ := (q2.tch0 ta).ownM
          have hmc : mcs2 = mcs := own_cells o2 (hown.alloc _).drew
          subst hmc
          have hRl : RInts ((w3.alloc (.cells #[.slice al l.length cl, .int .i64 rr, .slice none 0 0, .slice none 0 0] 52)).drew) O (.slice al l.length cl) l := (HV.out.1.tch ta).src O (fun k hk => by
            have := hOl k hk
            have h11 := HT1.out.size
            omega)
          have hb2a := Nat.lt_of_lt_of_le hb2 ta.size
          obtain ⟨O', g1, g2, g3⟩ := PR1.put ((ta.block b hb2 (by simp)).trans q1) (hput w6 (.slice ao (i.methods.length + 1) cap2) (.slice al l.length cl) l rr _ hb2a ⟨hown6, hgrow6, hat6⟩ hRl) (hgrow6.block b hb2a hneb') hbO 3 (.slice ao (i.methods.length + 1) cap2) 4 rfl
          have hq : meR i (wd :: ps) = some ⟨{ i with methods := i.methods ++ [⟨l, rr, [], []⟩] }, 4⟩ := by
            unfold meR
            simp only
            rw [if_pos (by show 0 ≤ kindW wd; rw [← HRR.out]; have := HR0.out; omega)]
            rw [show kindsP UU ps = some l from HV.out.2]
            show some _ = some _
            rw [HRR.out]; rfl
          rw [hR, hq]
          exact RLTo.yes rfl (tO.trans (H3.out.then ta) (fun _ _ h => h) (by simp)) g1 g2 g3
end Go.Proofs.YteebapopeaafhaaDoor
