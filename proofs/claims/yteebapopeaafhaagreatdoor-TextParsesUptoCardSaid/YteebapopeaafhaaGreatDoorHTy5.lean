/-
  CONTRACTS: the document's parser: a line: a method. Conditions: utf8's tables as they are laid; sizes.
  CONTRACTS: the document's parser: a line: an instruction. Conditions: utf8's tables as they are laid; sizes.
-/
import Derived.Test.YteebapopeaafhaaGreatDoorHTy3
import Derived.Deep.QuietTactic
import Derived.BigQuiet
import Derived.Test.YteebapopeaafhaaGreatDoorHCode5
namespace Go.Proofs.YteebapopeaafhaaGreatDoor
open Go.RowKit Go.Tcn
set_option linter.unusedVariables false
set_option linter.unusedSimpArgs false
/-- A method's words. -/
def meR (i : Img) (r : List Wd) : Option PR := match r with
  | k :: ps => if 0 ≤ UU.kind k then match kindsP UU ps with
    | some l => some ⟨{ i with methods := i.methods ++ [⟨l, UU.kind k, [], []⟩] }, 4⟩
    | none => none else none
  | _ => none
set_option maxRecDepth 100000 in
set_option maxHeartbeats 8000000 in
theorem rl_method (w : World) (b : Nat) (O : List Nat) (i : Img) (a : Nat) (h : PRx w b O i a) (ha : a ≠ 0 ∧ a ≤ 6) (hsz : i.methods.length ≤ 1099511627776) (a0 : Option Addr) (c0 : Nat) (r : List Wd) (hw : Src w O (.slice a0 (r.length + 1) c0) (r.length + 1) (strs (kMethod :: r))) (hl : r.length + 1 ≤ 1099511627776) (hwl : ∀ wd ∈ r, wd.length ≤ 1099511627776) (hV : ValO w O) :
    Calls Tryz.prog 33 #[.pointer (some ⟨b, 0, none⟩), .slice a0 (r.length + 1) c0] w fun e w' => RLTo w w' b O (lineR UU ⟨i, a⟩ (kMethod :: r)) e := by
  have hbO := h.b
  have hOl := h.ol
  obtain ⟨ad, rfl, hadl0, hadO, hq⟩ := Src.at hw (j := 0) (by simp)
  rw [Addr_add_zero] at hq
  have hq00 : w.cell? ad = some (.string ⟨(kMethod : Wd).toArray⟩) := by simpa [strs] using hq
  clear hq
  obtain ⟨i0, hi, hz0, hz1, hz2⟩ := info_parts info_mthT
  obtain ⟨ha, hb⟩ := ha
  have ha0 : ((a : Int) == 0) = false := by simp; omega
  have ha1 : (a == 0) = false := by simp; omega
  have hle6 : decide ((a : Int) ≤ 6) = true := decide_eq_true (by omega)
  have hlf6 : decide (a ≤ 6) = true := decide_eq_true (by omega)
  go_enter Tryz.func33, Tryz.ntmps33
  go_wp2_with fail
  refine (ref_Op kMethod w).mono ?_
  rintro e w1 ⟨rfl, t1⟩
  have hadl := Nat.lt_of_lt_of_le hadl0 t1.size
  have hq0 := (t1.cell (p := ad) hadl0 (by simp)).trans hq00
  have hw1 := hw.tch t1 (by simp)
  have tO : Tch O w w1 := t1.nil
  have h1 := h.tch0 t1
  obtain ⟨vf, vi, vm, ve, q1, q2⟩ := (show PRx w1 b O i _ from h1).cells
  obtain ⟨d0, d1, d2, d3, d4, d5, hf⟩ := cells6 q1
  have hb1 := heap_lt q1
  obtain ⟨op, hop⟩ : ∃ op, op = opAt kMethod := ⟨_, rfl⟩
  rw [← hop]
  have HOP := Lib.hid hop
  clear hop hq00 hw
  have hR : lineR UU ⟨i, a⟩ (kMethod :: r) = meR i r := by
    unfold lineR
    simp only
    rw [if_neg ha, if_neg (fun h => absurd h.1 (by decide)), if_neg (fun h => absurd h.1 (by decide)), if_pos (by simp [hb])]
    match r with
    | [] => rfl
    | _ :: _ => rfl
  have HR := Lib.hid (And.intro hR (And.intro tO h1))
  clear hR ha hb
  obtain rfl | ⟨wd, ps, rfl⟩ : r = [] ∨ ∃ a ps, r = a :: ps := by
    cases r with
    | nil => exact .inl rfl
    | cons a l => exact .inr ⟨a, l, rfl⟩
  · have hq : meR i [] = none := rfl
    have HH := Lib.hid hq
    clear hq hw1 h1 h q1 q2 tO t1
    go_wp2_with fail
    go_ret
    rw [HR.out.1, HH.out]
    exact RLTo.no rfl HR.out.2.1
  · have hx1 : w1.cell? ⟨ad.block, ad.off + 1, none⟩ = some (.string ⟨wd.toArray⟩) := words_at (ws := kMethod :: wd :: ps) hw1 (j := 1) (by simp) (by omega)
    obtain ⟨hcut, hsrc⟩ := cut_words (ws := kMethod :: wd :: ps) hw1 (n := 2) (by simp)
    have e1 : (kMethod :: wd :: ps).drop 2 = ps := rfl
    rw [e1] at hsrc
    have hlw : (wd :: ps).length = ps.length + 1 := rfl
    have hlw2 : (kMethod :: wd :: ps).length = ps.length + 2 := rfl
    rw [hlw2] at hcut
    rw [hlw] at hl ⊢
    have e2 : ps.length + 2 - 2 = ps.length := rfl
    rw [e2] at hcut
    generalize cutA (some ad) 2 1 c0 = ax at hcut hsrc
    have hcut1 : ∀ w', (Instr.slice 61 (.slice (some ad) (ps.length + 1 + 1) c0) (some (.int .i64 2)) none none).run Tryz.prog w' = .ok (.slice ax ps.length (c0 - 2)) w' := hcut
    clear hcut
    generalize c0 - 2 = c1 at hcut1 hsrc
    have hK := rf_kindsOf w1 O ax c1 ps hsrc (by omega)
    have hd : decide ((ps.length : Int) + 1 + 1 < 2) = false := decide_eq_false (by omega)
    have hd2 : decide (ps.length + 1 + 1 < 2) = false := decide_eq_false (by omega)
    have hbd1 : (1 : Int) < (ps.length : Int) + 1 + 1 := by omega
    have HT1 := Lib.hid t1
    clear hw1 h1 h q1 q2 hV tO t1 hsrc hwl hlw hlw2 e1 e2
    go_wp2_with fail
    refine (rf_Kind w1 wd).mono ?_
    rintro e w2 ⟨rfl, rfl⟩
    obtain ⟨rr, hrr⟩ : ∃ r, r = kindW wd := ⟨_, rfl⟩
    rw [← hrr]
    by_cases hr0 : rr < 0
    · have hdr : decide (rr < 0) = true := decide_eq_true hr0
      have hq : meR i (wd :: ps) = none := by
        unfold meR
        simp only
        rw [if_neg (fun h => by have h1 : 0 ≤ kindW wd := h; omega)]
      have HQ := Lib.hid hq
      clear hq hr0 hrr hK
      go_wp2_with fail
      go_ret
      rw [HR.out.1, HQ.out]
      exact RLTo.no rfl HR.out.2.1
    · have hdr : decide (rr < 0) = false := decide_eq_false hr0
      have HR0 := Lib.hid hr0
      have HRR := Lib.hid hrr
      clear hr0 hrr d0 d1 d2 d3 d4 d5 hf
      go_wp2_with fail
      refine hK.mono ?_
      rintro e w3 ⟨t3, hk3⟩
      clear hK
      obtain ⟨al, l, cl, rfl, hv, hkl⟩ := kinds_any hk3
      clear hk3
      obtain ⟨is, his⟩ : ∃ is, is = (kindsP UU ps).isSome := ⟨_, rfl⟩
      rw [← his]
      rw [← his] at hkl
      cases is
      · have hq : meR i (wd :: ps) = none := by
          unfold meR
          simp only
          cases hp : kindsP UU ps with
          | none => split <;> rfl
          | some l' => rw [hp] at his; cases his
        have HQ := Lib.hid hq
        clear hq hkl his hv
        go_wp2_with fail
        go_ret
        rw [HR.out.1, HQ.out]
        exact RLTo.no rfl (HR.out.2.1.trans t3 (fun _ _ h => h) (by simp))
      · have hkl := hkl rfl
        have l1 := (t3.cell (p := ⟨ad.block, ad.off + 1, none⟩) hadl (by simp)).trans hx1
        have h5 := HR.out.2.2.tch0 t3
        obtain ⟨vf', vi', vm', ve', q1, q2⟩ := (show PRx w3 b O i a from h5).cells
        obtain ⟨d0, d1, d2, d3, d4, d5, hf⟩ := cells6 q1
        obtain ⟨mcs, hown, hneb, hput⟩ := q2.ownM
        have hbnd : i.methods.length + 1 ≤ 9223372036854775807 ∧ (i.methods.length + 1) * 80 ≤ 140737488355328 := by omega
        have hb2 := heap_lt q1
        have hneb' : some b ≠ vm'.ownBlock := fun h => hneb h.symm
        have HQ := Lib.hid (And.intro q1 (And.intro q2 hput))
        have HV := Lib.hid (And.intro hv hkl)
        have H3 := Lib.hid t3
        have hKd := fun (W : World) => rf_Kind W wd
        rw [← HRR.out] at hKd
        clear q1 q2 h5 hput hv t3 hx1 hkl his
        go_wp2_with fail
        go_region_law (first | (refine step_append_any _ rfl (.tmp 206) (.tmp 213) 28 rfl 55 i0 (.agg #[.slice none 0 0, .int .i64 0, .slice none 0 0, .slice none 0 0]) 4 80 Tryz.underlying28 hi hz0 hz1 hz2 rfl (by decide) vm' i.methods.length mcs rfl (hown.alloc _).drew [] _ 1 [.slice al l.length cl, .int .i64 rr, .slice none 0 0, .slice none 0 0] rfl (src_new w3 _ [] #[.slice al l.length cl, .int .i64 rr, .slice none 0 0, .slice none 0 0] _ 1 1 (Tch.refl [] _).drew (by simp)) rfl (one_mth _ _ _ _) hbnd ?_; intro ao cap2 w6 hown6 hgrow6 hat6; have e6 : w6.cell? ⟨b, 3, none⟩ = some vm' := (hgrow6.cell_far ⟨b, 3, none⟩ (by simp; omega) hneb').trans ((World.cell?_alloc_past _ _ _ hb2).trans d3); have f6 : ∀ j, w6.frozen? ⟨b, j, none⟩ = false := (fun j => (hgrow6.frozen_far ⟨b, j, none⟩ (by simp; omega) hneb').trans ((World.frozen?_alloc_past _ _ _ hb2).trans (hf j)))) | (go_simp; go_at_call 72; refine (hKd _).mono ?_; rintro e w' ⟨rfl, rfl⟩))
        all_goals
          have e65 : w6.cell? ⟨b, 5, none⟩ = some (.int .i64 a) := (hgrow6.cell_far ⟨b, 5, none⟩ (by simp; omega) hneb').trans ((World.cell?_alloc_past _ _ _ hb2).trans d5)
          go_wp2_with fail
          go_ret
          obtain ⟨q1, q2, _⟩ := HQ.out
          obtain ⟨hR, tO, h1⟩ := HR.out
          have ta : Tch [] w3 ((w3.alloc (.cells #[.slice al l.length cl, .int .i64 rr, .slice none 0 0, .slice none 0 0] 55)).drew) := ((Tch.refl [] w3).alloc _).drew
          obtain ⟨mcs2, o2, _, hput⟩ := (q2.tch0 ta).ownM
          have hmc : mcs2 = mcs := own_cells o2 (hown.alloc _).drew
          subst hmc
          have hRl : RInts ((w3.alloc (.cells #[.slice al l.length cl, .int .i64 rr, .slice none 0 0, .slice none 0 0] 55)).drew) O (.slice al l.length cl) l := (HV.out.1.tch ta).src O (fun k hk => by
            have := hOl k hk
            have h11 := HT1.out.size
            omega)
          have hb2a := Nat.lt_of_lt_of_le hb2 ta.size
          obtain ⟨O', g1, g2, g3⟩ := PR1.put ((ta.block b hb2 (by simp)).trans q1) (hput w6 (.slice ao (i.methods.length + 1) cap2) (.slice al l.length cl) l rr _ hb2a ⟨hown6, hgrow6, hat6⟩ hRl) (hgrow6.block b hb2a hneb') hbO 3 (.slice ao (i.methods.length + 1) cap2) 4 rfl
          have hq : meR i (wd :: ps) = some ⟨{ i with methods := i.methods ++ [⟨l, rr, [], []⟩] }, 4⟩ := by
            unfold meR
            simp only
            rw [if_pos (by show 0 ≤ kindW wd; rw [← HRR.out]; have := HR0.out; omega)]
            rw [show kindsP UU ps = some l from HV.out.2]
            show some _ = some _
            rw [HRR.out]; rfl
          rw [hR, hq]
          exact RLTo.yes rfl (tO.trans (H3.out.then ta) (fun _ _ h => h) (by simp)) g1 g2 g3
end Go.Proofs.YteebapopeaafhaaGreatDoor
namespace Go.Proofs.YteebapopeaafhaaGreatDoor
open Go.RowKit Go.Tcn
set_option linter.unusedVariables false
set_option linter.unusedSimpArgs false
set_option maxRecDepth 100000 in
set_option maxHeartbeats 8000000 in
theorem rl_instr (w : World) (b : Nat) (O : List Nat) (i : Img) (a : Nat) (h : PRx w b O i a) (ha : 4 ≤ a ∧ a ≤ 6) (hm0 : i.methods ≠ []) (hsz : i.methods.length ≤ 1099511627776) (hsc : ∀ m ∈ i.methods, m.code.length ≤ 1099511627776) (w0 : Wd) (hop0 : 0 < opAt w0) (a0 : Option Addr) (c0 : Nat) (r : List Wd) (hw : Src w O (.slice a0 (r.length + 1) c0) (r.length + 1) (strs (w0 :: r))) (hl : r.length + 1 ≤ 1099511627776) (hwl : ∀ wd ∈ r, wd.length ≤ 1099511627776) (hV : ValO w O) :
    Calls Tryz.prog 33 #[.pointer (some ⟨b, 0, none⟩), .slice a0 (r.length + 1) c0] w fun e w' => RLTo w w' b O (lineR UU ⟨i, a⟩ (w0 :: r)) e := by
  have hbO := h.b
  have hOl := h.ol
  obtain ⟨ad, rfl, hadl0, hadO, hq⟩ := Src.at hw (j := 0) (by simp)
  rw [Addr_add_zero] at hq
  have hq00 : w.cell? ad = some (.string ⟨(w0 : Wd).toArray⟩) := by simpa [strs] using hq
  clear hq
  obtain ⟨i0, hi, hz0, hz1, hz2⟩ := info_parts info_insT
  obtain ⟨ha, hb⟩ := ha
  have k1 : w0 ≠ kField := fun e => by rw [e, show opAt kField = 0 from UU.k2] at hop0; omega
  have k2 : w0 ≠ kImport := fun e => by rw [e, show opAt kImport = 0 from UU.k3] at hop0; omega
  have k3 : w0 ≠ kMethod := fun e => by rw [e, show opAt kMethod = 0 from UU.k4] at hop0; omega
  have k4 : w0 ≠ kLocals := fun e => by rw [e, show opAt kLocals = 0 from UU.k5] at hop0; omega
  have b1 : (w0 == [102, 105, 101, 108, 100]) = false := beq_eq_false_iff_ne.2 k1
  have b2 : (w0 == [105, 109, 112, 111, 114, 116]) = false := beq_eq_false_iff_ne.2 k2
  have b3 : (w0 == [109, 101, 116, 104, 111, 100]) = false := beq_eq_false_iff_ne.2 k3
  have b4 : (w0 == [108, 111, 99, 97, 108, 115]) = false := beq_eq_false_iff_ne.2 k4
  have hR : lineR UU ⟨i, a⟩ (w0 :: r) = (insW UU (opAt w0) r).map fun x => ⟨{ i with methods := addLast i.methods fun m => { m with code := m.code ++ [x] } }, 6⟩ := by
    unfold lineR
    simp only
    rw [if_neg (by omega), if_neg (fun h => k1 h.1), if_neg (fun h => k2 h.1), if_neg (fun h => k3 h.1), if_neg (fun h => k4 h.1), if_pos ⟨hop0, ha, hb⟩]
    rfl
  have HR := Lib.hid hR
  clear hR k1 k2 k3 k4
  have ha0 : ((a : Int) == 0) = false := by simp; omega
  have ha1 : (a == 0) = false := by simp; omega
  have hge4 : decide ((4 : Int) ≤ (a : Int)) = true := decide_eq_true (by omega)
  have hgf4 : decide (4 ≤ a) = true := decide_eq_true (by omega)
  have hle6 : decide ((a : Int) ≤ 6) = true := decide_eq_true (by omega)
  have hlf6 : decide (a ≤ 6) = true := decide_eq_true (by omega)
  go_enter Tryz.func33, Tryz.ntmps33
  go_wp2_with fail
  refine (ref_Op w0 w).mono ?_
  rintro e w1 ⟨rfl, t1⟩
  have hadl := Nat.lt_of_lt_of_le hadl0 t1.size
  have hq0 := (t1.cell (p := ad) hadl0 (by simp)).trans hq00
  have hw1 := hw.tch t1 (by simp)
  have tO : Tch O w w1 := t1.nil
  have h1 := h.tch0 t1
  obtain ⟨vf, vi, vm, ve, q1, q2⟩ := (show PRx w1 b O i _ from h1).cells
  obtain ⟨d0, d1, d2, d3, d4, d5, hf⟩ := cells6 q1
  have hb1 := heap_lt q1
  obtain ⟨op, hop⟩ : ∃ op, op = opAt w0 := ⟨_, rfl⟩
  rw [← hop]
  have HOP := Lib.hid hop
  clear hop hq00 hw
  have hopp : 0 < op := by rw [HOP.out]; exact hop0
  have hdo : decide (0 < op) = true := decide_eq_true hopp
  have HO := Lib.hid hopp
  obtain ⟨ms, m, hms⟩ := last_of hm0
  have hml : i.methods.length = ms.length + 1 := by rw [hms]; simp
  have hmc := hsc m (by rw [hms]; simp)
  have hsm : ms.length + 1 ≤ 1099511627776 := by omega
  have HX := Lib.hid (And.intro q1 (And.intro q2 (And.intro hms (And.intro hml (And.intro tO t1)))))
  clear q1 q2 hms hsc hm0 h h1 tO t1 hopp hop0 ha hb d0 d1 d2 d4 hV hml
  obtain ⟨V, hVd⟩ : ∃ V, V = w1.alloc (.cells #[.int .i64 op, .int .i64 0, .int .i64 0] 57) := ⟨_, rfl⟩
  have tV : Tch [] w1 V := by rw [hVd]; exact (Tch.refl [] w1).alloc _
  obtain ⟨gx, hgx⟩ : ∃ gx, gx = w1.heap.size := ⟨_, rfl⟩
  have hVb : V.heap[gx]? = some (.cells #[.int .i64 op, .int .i64 0, .int .i64 0] 57 (0, 0)) := by rw [hVd, hgx]; exact heap_alloc_new w1 _
  have HGX := Lib.hid hgx
  have hgx1 : w1.heap.size ≤ gx := Nat.le_of_eq hgx.symm
  go_upto_region 40 with fail
  rw [← hVd, ← hgx]
  clear hVd hgx
  go_wp2_with fail
  refine (ref_Operands op V).mono ?_
  rintro e w2 ⟨rfl, rfl⟩
  have hon : 0 ≤ opndN op ∧ opndN op ≤ 2 := by unfold opndN; repeat' split <;> omega
  have htail : ∀ (A B : Int) (W : World), W.heap[gx]? = some (.cells #[.int .i64 op, .int .i64 A, .int .i64 B] 57 (0, 0)) → Tch [] w1 W →
      ∃ g cap vc, W.cell? ⟨b, 3, none⟩ = some (.slice (some ⟨g, 0, none⟩) (ms.length + 1) cap) ∧ W.cell? ⟨gx, 0, none⟩ = some (.int .i64 op) ∧ W.cell? ⟨gx, 1, none⟩ = some (.int .i64 A) ∧ W.cell? ⟨gx, 2, none⟩ = some (.int .i64 B) ∧
        W.cell? ⟨g, ms.length * 4 + 3, none⟩ = some vc ∧ W.frozen? ⟨g, ms.length * 4 + 3, none⟩ = false ∧ W.ownsRow 0 57 3 vc m.code.length (codeCells m.code) ∧ g < W.heap.size ∧ g ≠ b ∧ some g ≠ vc.ownBlock ∧ some b ≠ vc.ownBlock ∧ b < W.heap.size ∧ W.cell? ⟨b, 5, none⟩ = some (.int .i64 a) ∧ (∀ j, W.frozen? ⟨b, j, none⟩ = false) ∧
        (∀ (w5 : World) (v' : Value) (n : Nat), Gr W w5 57 3 vc v' n (codeCells m.code ++ (⟨op, A, B⟩ : Ins).cells) → ∀ e, e = .returned (.bool true) →
          insW UU op r = some ⟨op, A, B⟩ → RLTo w ((w5.setCell ⟨g, ms.length * 4 + 3, none⟩ v').setCell ⟨b, 5, none⟩ (.int .i64 6)) b O (lineR UU ⟨i, a⟩ (w0 :: r)) e) := by
    intro A B W hWX tW
    obtain ⟨q1, q2, hms, hml, tO, t1⟩ := HX.out
    have q3 := q2.tch0 tW
    have hb3 := Nat.lt_of_lt_of_le hb1 tW.size
    have q1W := (tW.block b hb1 (by simp)).trans q1
    obtain ⟨g, cap, vc, hvm, hgl, hgb, hgv, hgf, _, hvg, hvb, hvo, hput, _⟩ := q3.last hb3 hms
    subst hvm
    obtain ⟨e0, e1, e2, e3, e4, e5, ef⟩ := cells6 q1W
    refine ⟨g, cap, vc, by rw [e3, hml], by simp [World.cell?, hWX], by simp [World.cell?, hWX], by simp [World.cell?, hWX], hgv, hgf _, hvo, hgl, hgb, fun h => hvg h.symm, fun h => hvb h.symm, hb3, e5, ef, fun w5 v' n gr e he hins => ?_⟩
    obtain ⟨O', g1, g2, g3⟩ := hput w5 v' ⟨op, A, B⟩ n gr
    rw [HR.out, ← HOP.out, hins, hms]
    simp only [Option.map_some, addLast_snoc]
    have t5 : Tch [b] (w5.setCell ⟨g, ms.length * 4 + 3, none⟩ v') ((w5.setCell ⟨g, ms.length * 4 + 3, none⟩ v').setCell ⟨b, 5, none⟩ (.int .i64 6)) := (Tch.refl [b] _).setCell (.inl (by simp)) _
    have hb' : (w5.setCell ⟨g, ms.length * 4 + 3, none⟩ v').heap[b]? = _ := (Below.heap_setCell _ _ _ _ (by exact fun e => hgb e.symm)).trans ((gr.g.block b hb3 (fun h => hvb h.symm)).trans q1W)
    exact RLTo.yes (w1 := W) he (O' := O') (tO.trans tW (fun _ _ h => h) (by simp)) ⟨vf, vi, .slice (some ⟨g, 0, none⟩) i.methods.length cap, ve, set7 hb' 5 _, g1.setb t5⟩ (g2.trans t5 (fun _ _ h => h) (fun k _ hk => by simp at hk; subst hk; exact hbO)) g3
  have HT := Lib.hid htail
  clear htail
  have hfail : ∀ (W : World), Tch [] w1 W → insW UU op r = none → ∀ e, e = .returned (.bool false) → RLTo w W b O (lineR UU ⟨i, a⟩ (w0 :: r)) e := by
    intro W tW hins e he
    rw [HR.out, ← HOP.out, hins]
    exact RLTo.no he (HX.out.2.2.2.2.1.trans tW (fun _ _ h => h) (by simp))
  have HF := Lib.hid hfail
  clear hfail
  have x0 : V.cell? ⟨gx, 0, none⟩ = some (.int .i64 op) := by simp [World.cell?, hVb]
  have x1 : V.cell? ⟨gx, 1, none⟩ = some (.int .i64 0) := by simp [World.cell?, hVb]
  have x2 : V.cell? ⟨gx, 2, none⟩ = some (.int .i64 0) := by simp [World.cell?, hVb]
  have xf : ∀ j, V.frozen? ⟨gx, j, none⟩ = false := fun j => by simp [World.frozen?, hVb]
  obtain ⟨no, hno⟩ : ∃ no : Nat, opndN op = no := ⟨(opndN op).toNat, by omega⟩
  have hno2 : no ≤ 2 := by omega
  have huu : UU.opnds op = no := by show (opndN op).toNat = no; omega
  rw [hno]
  by_cases hn : r.length = no
  · obtain rfl | rfl | rfl : no = 0 ∨ no = 1 ∨ no = 2 := by omega
    · have hr : r = [] := List.eq_nil_of_length_eq_zero hn
      subst hr
      have hins : insW UU op [] = some ⟨op, 0, 0⟩ := by unfold insW; rw [if_neg (by rw [huu]; simp)]
      have HI := Lib.hid hins
      have hWV := hVb
      have tWV := tV
      clear hins huu hno hon hVb x0 x1 x2 xf tV
      go_upto_region 50 with fail
      obtain ⟨g, cap, vc, f3, f0, f1, f2, fv, fvf, fo, fg, fgb, fgv, fbv, fbl, fa, ff, ffin⟩ := HT.out (0) (0) V hWV tWV
      have FF := Lib.hid ffin
      clear ffin
      go_quiet (fail)
      go_wp2_with fail
      obtain ⟨W2, hW2⟩ : ∃ W2, W2 = V.drewN nq := ⟨_, rfl⟩
      rw [← hW2]
      have u0 : W2.cell? ⟨gx, 0, none⟩ = some (.int .i64 op) := by rw [hW2]; exact f0
      have u1 : W2.cell? ⟨gx, 1, none⟩ = some (.int .i64 (0)) := by rw [hW2]; exact f1
      have u2 : W2.cell? ⟨gx, 2, none⟩ = some (.int .i64 (0)) := by rw [hW2]; exact f2
      have uv : W2.cell? ⟨g, ms.length * 4 + 3, none⟩ = some vc := by rw [hW2]; exact fv
      have uvf : W2.frozen? ⟨g, ms.length * 4 + 3, none⟩ = false := by rw [hW2]; exact fvf
      have uo : W2.ownsRow 0 57 3 vc m.code.length (codeCells m.code) := by rw [hW2]; exact fo
      have ug : g < W2.heap.size := by rw [hW2]; exact fg
      have ubl : b < W2.heap.size := by rw [hW2]; exact fbl
      have ua : W2.cell? ⟨b, 5, none⟩ = some (.int .i64 a) := by rw [hW2]; exact fa
      have uf : ∀ j, W2.frozen? ⟨b, j, none⟩ = false := fun j => by rw [hW2]; exact ff j
      have HW2 := Lib.hid hW2
      have F3 := Lib.hid (And.intro f3 fv)
      clear hW2 f3 f0 f1 f2 fv fvf fo fg fbl fa ff
      have hbnd : m.code.length + 1 ≤ 9223372036854775807 ∧ (m.code.length + 1) * 24 ≤ 140737488355328 := by omega
      go_region_law (first | (refine step_append_any _ rfl (.tmp 332) (.tmp 334) 53 rfl 57 i0 (.agg #[.int .i64 0, .int .i64 0, .int .i64 0]) 3 24 Tryz.underlying53 hi hz0 hz1 hz2 rfl (by decide) vc m.code.length (codeCells m.code) rfl (uo.alloc _).drew [] _ 1 [.int .i64 op, .int .i64 (0), .int .i64 (0)] rfl (src_new W2 _ [] #[.int .i64 op, .int .i64 (0), .int .i64 (0)] _ 1 1 (Tch.refl [] _).drew (by simp)) rfl (by intro u hu; simp at hu; rcases hu with rfl | rfl | rfl <;> rfl) hbnd ?_; intro ao cap2 w5 hown5 hgrow5 hat5; have e5 : w5.cell? ⟨g, ms.length * 4 + 3, none⟩ = some vc := (hgrow5.cell_far ⟨g, ms.length * 4 + 3, none⟩ (by simp; omega) fgv).trans ((World.cell?_alloc_past _ _ _ ug).trans uv); have f5 : w5.frozen? ⟨g, ms.length * 4 + 3, none⟩ = false := (hgrow5.frozen_far ⟨g, ms.length * 4 + 3, none⟩ (by simp; omega) fgv).trans ((World.frozen?_alloc_past _ _ _ ug).trans uvf)))
      all_goals
        have hne : ∀ j, (⟨b, j, none⟩ : Addr).block ≠ (⟨g, ms.length * 4 + 3, none⟩ : Addr).block := fun j e => fgb e.symm
        have y5 : w5.cell? ⟨b, 5, none⟩ = some (.int .i64 a) := (hgrow5.cell_far ⟨b, 5, none⟩ (by simp; omega) fbv).trans ((World.cell?_alloc_past _ _ _ ubl).trans ua)
        have yf : w5.frozen? ⟨b, 5, none⟩ = false := (hgrow5.frozen_far ⟨b, 5, none⟩ (by simp; omega) fbv).trans ((World.frozen?_alloc_past _ _ _ ubl).trans (uf 5))
        have y5' : (w5.setCell ⟨g, ms.length * 4 + 3, none⟩ (.slice ao (m.code.length + 1) cap2)).cell? ⟨b, 5, none⟩ = some (.int .i64 a) := by
          rw [World.cell?_of_block (Below.heap_setCell _ _ _ _ (by exact hne 5))]; exact y5
        have yf' : (w5.setCell ⟨g, ms.length * 4 + 3, none⟩ (.slice ao (m.code.length + 1) cap2)).frozen? ⟨b, 5, none⟩ = false := by
          rw [World.frozen?_of_block (Below.heap_setCell _ _ _ _ (by exact hne 5))]; exact yf
        go_wp2_with fail
        go_ret
        have ta : Tch [] V ((W2.alloc (.cells #[.int .i64 op, .int .i64 (0), .int .i64 (0)] 57)).drew) := by
          rw [HW2.out]; exact (((Tch.refl [] _).drewN _).alloc _).drew
        obtain ⟨g', cap', vc', f3', _, _, _, fv', _, _, _, _, _, _, _, _, _, ffin'⟩ := HT.out (0) (0) ((W2.alloc (.cells #[.int .i64 op, .int .i64 (0), .int .i64 (0)] 57)).drew) ((ta.block gx (heap_lt hWV) (by simp)).trans hWV) (tWV.then ta)
        have e3 := (ta.cell (p := ⟨b, 3, none⟩) (cell_lt F3.out.1) (by simp)).trans F3.out.1
        rw [e3] at f3'
        simp only [Option.some.injEq, Value.slice.injEq, Addr.mk.injEq, and_true, true_and] at f3'
        obtain ⟨rfl, rfl⟩ := f3'
        have e4 := (ta.cell (p := ⟨g, ms.length * 4 + 3, none⟩) (cell_lt F3.out.2) (by simp)).trans F3.out.2
        rw [e4] at fv'
        obtain rfl : vc = vc' := Option.some.inj fv'
        exact ffin' w5 _ _ ⟨hown5, hgrow5, hat5⟩ _ rfl HI.out
    · obtain ⟨x, rfl⟩ : ∃ x, r = [x] := by
        match r, hn with
        | [x], _ => exact ⟨x, rfl⟩
      have hx1 : V.cell? ⟨ad.block, ad.off + 1, none⟩ = some (.string ⟨x.toArray⟩) := (tV.cell (p := ⟨ad.block, ad.off + 1, none⟩) hadl (by simp)).trans (words_at (ws := [w0, x]) hw1 (j := 1) (by simp) (by omega))
      have hlr : ([x] : List Wd).length = 1 := rfl
      have hN := rf_number V x (hwl x (by simp))
      have hins : insW UU op [x] = (numW x).map fun y => ⟨op, y, 0⟩ := by unfold insW; rw [if_neg (by rw [huu]; simp)]; rfl
      have HI0 := Lib.hid hins
      have HV := Lib.hid (And.intro hVb (And.intro tV hw1))
      clear hins huu hno hon hVb tV hw1 hwl hl hn
      go_wp2_with fail
      refine hN.mono ?_
      rintro e w2 ⟨rfl, rfl⟩
      clear hN
      cases hnx : numW x with
      | none =>
        rw [numTo_none hnx]
        have hins : insW UU op [x] = none := by rw [HI0.out, hnx]; rfl
        have HI := Lib.hid hins
        clear hins hnx
        go_wp2_with fail
        go_ret
        exact HF.out _ (HV.out.2.1.setCell (.inr hgx1) _) HI.out _ rfl
      | some A =>
        rw [numTo_some hnx]
        have hins : insW UU op [x] = some ⟨op, A, 0⟩ := by rw [HI0.out, hnx]; rfl
        have HI := Lib.hid hins
        clear hins hnx
        go_upto_region 50 with fail
        obtain ⟨W, hWd⟩ : ∃ W, W = V.setCell ⟨gx, 1, none⟩ (.int .i64 A) := ⟨_, rfl⟩
        rw [← hWd]
        have hWW : W.heap[gx]? = some (.cells #[.int .i64 op, .int .i64 A, .int .i64 0] 57 (0, 0)) := by rw [hWd]; exact set7 HV.out.1 1 _
        have tWW : Tch [] w1 W := by rw [hWd]; exact HV.out.2.1.setCell (.inr hgx1) _
        clear hWd x0 x1 x2 xf
        obtain ⟨g, cap, vc, f3, f0, f1, f2, fv, fvf, fo, fg, fgb, fgv, fbv, fbl, fa, ff, ffin⟩ := HT.out (A) (0) W hWW tWW
        have FF := Lib.hid ffin
        clear ffin
        go_quiet (fail)
        go_wp2_with fail
        obtain ⟨W2, hW2⟩ : ∃ W2, W2 = W.drewN nq := ⟨_, rfl⟩
        rw [← hW2]
        have u0 : W2.cell? ⟨gx, 0, none⟩ = some (.int .i64 op) := by rw [hW2]; exact f0
        have u1 : W2.cell? ⟨gx, 1, none⟩ = some (.int .i64 (A)) := by rw [hW2]; exact f1
        have u2 : W2.cell? ⟨gx, 2, none⟩ = some (.int .i64 (0)) := by rw [hW2]; exact f2
        have uv : W2.cell? ⟨g, ms.length * 4 + 3, none⟩ = some vc := by rw [hW2]; exact fv
        have uvf : W2.frozen? ⟨g, ms.length * 4 + 3, none⟩ = false := by rw [hW2]; exact fvf
        have uo : W2.ownsRow 0 57 3 vc m.code.length (codeCells m.code) := by rw [hW2]; exact fo
        have ug : g < W2.heap.size := by rw [hW2]; exact fg
        have ubl : b < W2.heap.size := by rw [hW2]; exact fbl
        have ua : W2.cell? ⟨b, 5, none⟩ = some (.int .i64 a) := by rw [hW2]; exact fa
        have uf : ∀ j, W2.frozen? ⟨b, j, none⟩ = false := fun j => by rw [hW2]; exact ff j
        have HW2 := Lib.hid hW2
        have F3 := Lib.hid (And.intro f3 fv)
        clear hW2 f3 f0 f1 f2 fv fvf fo fg fbl fa ff
        have hbnd : m.code.length + 1 ≤ 9223372036854775807 ∧ (m.code.length + 1) * 24 ≤ 140737488355328 := by omega
        go_region_law (first | (refine step_append_any _ rfl (.tmp 332) (.tmp 334) 53 rfl 57 i0 (.agg #[.int .i64 0, .int .i64 0, .int .i64 0]) 3 24 Tryz.underlying53 hi hz0 hz1 hz2 rfl (by decide) vc m.code.length (codeCells m.code) rfl (uo.alloc _).drew [] _ 1 [.int .i64 op, .int .i64 (A), .int .i64 (0)] rfl (src_new W2 _ [] #[.int .i64 op, .int .i64 (A), .int .i64 (0)] _ 1 1 (Tch.refl [] _).drew (by simp)) rfl (by intro u hu; simp at hu; rcases hu with rfl | rfl | rfl <;> rfl) hbnd ?_; intro ao cap2 w5 hown5 hgrow5 hat5; have e5 : w5.cell? ⟨g, ms.length * 4 + 3, none⟩ = some vc := (hgrow5.cell_far ⟨g, ms.length * 4 + 3, none⟩ (by simp; omega) fgv).trans ((World.cell?_alloc_past _ _ _ ug).trans uv); have f5 : w5.frozen? ⟨g, ms.length * 4 + 3, none⟩ = false := (hgrow5.frozen_far ⟨g, ms.length * 4 + 3, none⟩ (by simp; omega) fgv).trans ((World.frozen?_alloc_past _ _ _ ug).trans uvf)))
        all_goals
          have hne : ∀ j, (⟨b, j, none⟩ : Addr).block ≠ (⟨g, ms.length * 4 + 3, none⟩ : Addr).block := fun j e => fgb e.symm
          have y5 : w5.cell? ⟨b, 5, none⟩ = some (.int .i64 a) := (hgrow5.cell_far ⟨b, 5, none⟩ (by simp; omega) fbv).trans ((World.cell?_alloc_past _ _ _ ubl).trans ua)
          have yf : w5.frozen? ⟨b, 5, none⟩ = false := (hgrow5.frozen_far ⟨b, 5, none⟩ (by simp; omega) fbv).trans ((World.frozen?_alloc_past _ _ _ ubl).trans (uf 5))
          have y5' : (w5.setCell ⟨g, ms.length * 4 + 3, none⟩ (.slice ao (m.code.length + 1) cap2)).cell? ⟨b, 5, none⟩ = some (.int .i64 a) := by
            rw [World.cell?_of_block (Below.heap_setCell _ _ _ _ (by exact hne 5))]; exact y5
          have yf' : (w5.setCell ⟨g, ms.length * 4 + 3, none⟩ (.slice ao (m.code.length + 1) cap2)).frozen? ⟨b, 5, none⟩ = false := by
            rw [World.frozen?_of_block (Below.heap_setCell _ _ _ _ (by exact hne 5))]; exact yf
          go_wp2_with fail
          go_ret
          have ta : Tch [] W ((W2.alloc (.cells #[.int .i64 op, .int .i64 (A), .int .i64 (0)] 57)).drew) := by
            rw [HW2.out]; exact (((Tch.refl [] _).drewN _).alloc _).drew
          obtain ⟨g', cap', vc', f3', _, _, _, fv', _, _, _, _, _, _, _, _, _, ffin'⟩ := HT.out (A) (0) ((W2.alloc (.cells #[.int .i64 op, .int .i64 (A), .int .i64 (0)] 57)).drew) ((ta.block gx (heap_lt hWW) (by simp)).trans hWW) (tWW.then ta)
          have e3 := (ta.cell (p := ⟨b, 3, none⟩) (cell_lt F3.out.1) (by simp)).trans F3.out.1
          rw [e3] at f3'
          simp only [Option.some.injEq, Value.slice.injEq, Addr.mk.injEq, and_true, true_and] at f3'
          obtain ⟨rfl, rfl⟩ := f3'
          have e4 := (ta.cell (p := ⟨g, ms.length * 4 + 3, none⟩) (cell_lt F3.out.2) (by simp)).trans F3.out.2
          rw [e4] at fv'
          obtain rfl : vc = vc' := Option.some.inj fv'
          exact ffin' w5 _ _ ⟨hown5, hgrow5, hat5⟩ _ rfl HI.out
    · obtain ⟨x, y, rfl⟩ : ∃ x y, r = [x, y] := by
        match r, hn with
        | [x, y], _ => exact ⟨x, y, rfl⟩
      have hx1 : V.cell? ⟨ad.block, ad.off + 1, none⟩ = some (.string ⟨x.toArray⟩) := (tV.cell (p := ⟨ad.block, ad.off + 1, none⟩) hadl (by simp)).trans (words_at (ws := [w0, x, y]) hw1 (j := 1) (by simp) (by omega))
      have hx2 : V.cell? ⟨ad.block, ad.off + 2, none⟩ = some (.string ⟨y.toArray⟩) := (tV.cell (p := ⟨ad.block, ad.off + 2, none⟩) hadl (by simp)).trans (words_at (ws := [w0, x, y]) hw1 (j := 2) (by simp) (by omega))
      have hlr : ([x, y] : List Wd).length = 2 := rfl
      have hN := rf_number V x (hwl x (by simp))
      have hN2 := fun (W : World) => rf_number W y (hwl y (by simp))
      have hins : insW UU op [x, y] = match numW x, numW y with | some p, some q => some ⟨op, p, q⟩ | _, _ => none := by unfold insW; rw [if_neg (by rw [huu]; simp)]; rfl
      have HI0 := Lib.hid hins
      have hne : ad.block ≠ gx := by omega
      have hx2s : ∀ (u : Value), (V.setCell ⟨gx, 1, none⟩ u).cell? ⟨ad.block, ad.off + 2, none⟩ = some (.string ⟨y.toArray⟩) := fun u => by
        rw [World.cell?_of_block (Below.heap_setCell _ _ _ _ (by exact hne))]; exact hx2
      have hVs : ∀ (u : Value), (V.setCell ⟨gx, 1, none⟩ u).cell? ⟨gx, 2, none⟩ = some (.int .i64 0) ∧ (V.setCell ⟨gx, 1, none⟩ u).frozen? ⟨gx, 2, none⟩ = false := fun u => by
        have := set7 hVb 1 u
        simp [World.cell?, World.frozen?, this]
      have HV := Lib.hid (And.intro hVb (And.intro tV hw1))
      clear hins huu hno hon hVb tV hw1 hwl hl hn hx2
      go_wp2_with fail
      refine hN.mono ?_
      rintro e w2 ⟨rfl, rfl⟩
      clear hN
      cases hnx : numW x with
      | none =>
        rw [numTo_none hnx]
        have hins : insW UU op [x, y] = none := by rw [HI0.out, hnx]
        have HI := Lib.hid hins
        clear hins hnx hN2
        go_wp2_with fail
        go_ret
        exact HF.out _ (HV.out.2.1.setCell (.inr hgx1) _) HI.out _ rfl
      | some A =>
        rw [numTo_some hnx]
        have HNX := Lib.hid hnx
        clear hnx
        go_upto_region 47 with fail
        obtain ⟨Y, hYd⟩ : ∃ Y, Y = V.setCell ⟨gx, 1, none⟩ (.int .i64 A) := ⟨_, rfl⟩
        rw [← hYd]
        have z2 : Y.cell? ⟨ad.block, ad.off + 2, none⟩ = some (.string ⟨y.toArray⟩) := by rw [hYd]; exact hx2s _
        have z3 : Y.cell? ⟨gx, 2, none⟩ = some (.int .i64 0) := by rw [hYd]; exact (hVs _).1
        have z4 : Y.frozen? ⟨gx, 2, none⟩ = false := by rw [hYd]; exact (hVs _).2
        have hYY : Y.heap[gx]? = some (.cells #[.int .i64 op, .int .i64 A, .int .i64 0] 57 (0, 0)) := by rw [hYd]; exact set7 HV.out.1 1 _
        have tYY : Tch [] w1 Y := by rw [hYd]; exact HV.out.2.1.setCell (.inr hgx1) _
        have HY := Lib.hid (And.intro hYY tYY)
        clear hYd hYY tYY x0 x1 x2 xf hx2s hVs hx1
        go_wp2_with fail
        refine (hN2 Y).mono ?_
        rintro e w2 ⟨rfl, rfl⟩
        clear hN2
        cases hny : numW y with
        | none =>
          rw [numTo_none hny]
          have hins : insW UU op [x, y] = none := by rw [HI0.out, hny, HNX.out]
          have HI := Lib.hid hins
          clear hins hny
          go_wp2_with fail
          go_ret
          exact HF.out _ (HY.out.2.setCell (.inr hgx1) _) HI.out _ rfl
        | some B =>
          rw [numTo_some hny]
          have hins : insW UU op [x, y] = some ⟨op, A, B⟩ := by rw [HI0.out, hny, HNX.out]
          have HI := Lib.hid hins
          clear hins hny
          go_upto_region 50 with fail
          obtain ⟨W, hWd⟩ : ∃ W, W = Y.setCell ⟨gx, 2, none⟩ (.int .i64 B) := ⟨_, rfl⟩
          rw [← hWd]
          have hWW : W.heap[gx]? = some (.cells #[.int .i64 op, .int .i64 A, .int .i64 B] 57 (0, 0)) := by rw [hWd]; exact set7 HY.out.1 2 _
          have tWW : Tch [] w1 W := by rw [hWd]; exact HY.out.2.setCell (.inr hgx1) _
          clear hWd z2 z3 z4
          obtain ⟨g, cap, vc, f3, f0, f1, f2, fv, fvf, fo, fg, fgb, fgv, fbv, fbl, fa, ff, ffin⟩ := HT.out (A) (B) W hWW tWW
          have FF := Lib.hid ffin
          clear ffin
          go_quiet (fail)
          go_wp2_with fail
          obtain ⟨W2, hW2⟩ : ∃ W2, W2 = W.drewN nq := ⟨_, rfl⟩
          rw [← hW2]
          have u0 : W2.cell? ⟨gx, 0, none⟩ = some (.int .i64 op) := by rw [hW2]; exact f0
          have u1 : W2.cell? ⟨gx, 1, none⟩ = some (.int .i64 (A)) := by rw [hW2]; exact f1
          have u2 : W2.cell? ⟨gx, 2, none⟩ = some (.int .i64 (B)) := by rw [hW2]; exact f2
          have uv : W2.cell? ⟨g, ms.length * 4 + 3, none⟩ = some vc := by rw [hW2]; exact fv
          have uvf : W2.frozen? ⟨g, ms.length * 4 + 3, none⟩ = false := by rw [hW2]; exact fvf
          have uo : W2.ownsRow 0 57 3 vc m.code.length (codeCells m.code) := by rw [hW2]; exact fo
          have ug : g < W2.heap.size := by rw [hW2]; exact fg
          have ubl : b < W2.heap.size := by rw [hW2]; exact fbl
          have ua : W2.cell? ⟨b, 5, none⟩ = some (.int .i64 a) := by rw [hW2]; exact fa
          have uf : ∀ j, W2.frozen? ⟨b, j, none⟩ = false := fun j => by rw [hW2]; exact ff j
          have HW2 := Lib.hid hW2
          have F3 := Lib.hid (And.intro f3 fv)
          clear hW2 f3 f0 f1 f2 fv fvf fo fg fbl fa ff
          have hbnd : m.code.length + 1 ≤ 9223372036854775807 ∧ (m.code.length + 1) * 24 ≤ 140737488355328 := by omega
          go_region_law (first | (refine step_append_any _ rfl (.tmp 332) (.tmp 334) 53 rfl 57 i0 (.agg #[.int .i64 0, .int .i64 0, .int .i64 0]) 3 24 Tryz.underlying53 hi hz0 hz1 hz2 rfl (by decide) vc m.code.length (codeCells m.code) rfl (uo.alloc _).drew [] _ 1 [.int .i64 op, .int .i64 (A), .int .i64 (B)] rfl (src_new W2 _ [] #[.int .i64 op, .int .i64 (A), .int .i64 (B)] _ 1 1 (Tch.refl [] _).drew (by simp)) rfl (by intro u hu; simp at hu; rcases hu with rfl | rfl | rfl <;> rfl) hbnd ?_; intro ao cap2 w5 hown5 hgrow5 hat5; have e5 : w5.cell? ⟨g, ms.length * 4 + 3, none⟩ = some vc := (hgrow5.cell_far ⟨g, ms.length * 4 + 3, none⟩ (by simp; omega) fgv).trans ((World.cell?_alloc_past _ _ _ ug).trans uv); have f5 : w5.frozen? ⟨g, ms.length * 4 + 3, none⟩ = false := (hgrow5.frozen_far ⟨g, ms.length * 4 + 3, none⟩ (by simp; omega) fgv).trans ((World.frozen?_alloc_past _ _ _ ug).trans uvf)))
          all_goals
            have hne : ∀ j, (⟨b, j, none⟩ : Addr).block ≠ (⟨g, ms.length * 4 + 3, none⟩ : Addr).block := fun j e => fgb e.symm
            have y5 : w5.cell? ⟨b, 5, none⟩ = some (.int .i64 a) := (hgrow5.cell_far ⟨b, 5, none⟩ (by simp; omega) fbv).trans ((World.cell?_alloc_past _ _ _ ubl).trans ua)
            have yf : w5.frozen? ⟨b, 5, none⟩ = false := (hgrow5.frozen_far ⟨b, 5, none⟩ (by simp; omega) fbv).trans ((World.frozen?_alloc_past _ _ _ ubl).trans (uf 5))
            have y5' : (w5.setCell ⟨g, ms.length * 4 + 3, none⟩ (.slice ao (m.code.length + 1) cap2)).cell? ⟨b, 5, none⟩ = some (.int .i64 a) := by
              rw [World.cell?_of_block (Below.heap_setCell _ _ _ _ (by exact hne 5))]; exact y5
            have yf' : (w5.setCell ⟨g, ms.length * 4 + 3, none⟩ (.slice ao (m.code.length + 1) cap2)).frozen? ⟨b, 5, none⟩ = false := by
              rw [World.frozen?_of_block (Below.heap_setCell _ _ _ _ (by exact hne 5))]; exact yf
            go_wp2_with fail
            go_ret
            have ta : Tch [] W ((W2.alloc (.cells #[.int .i64 op, .int .i64 (A), .int .i64 (B)] 57)).drew) := by
              rw [HW2.out]; exact (((Tch.refl [] _).drewN _).alloc _).drew
            obtain ⟨g', cap', vc', f3', _, _, _, fv', _, _, _, _, _, _, _, _, _, ffin'⟩ := HT.out (A) (B) ((W2.alloc (.cells #[.int .i64 op, .int .i64 (A), .int .i64 (B)] 57)).drew) ((ta.block gx (heap_lt hWW) (by simp)).trans hWW) (tWW.then ta)
            have e3 := (ta.cell (p := ⟨b, 3, none⟩) (cell_lt F3.out.1) (by simp)).trans F3.out.1
            rw [e3] at f3'
            simp only [Option.some.injEq, Value.slice.injEq, Addr.mk.injEq, and_true, true_and] at f3'
            obtain ⟨rfl, rfl⟩ := f3'
            have e4 := (ta.cell (p := ⟨g, ms.length * 4 + 3, none⟩) (cell_lt F3.out.2) (by simp)).trans F3.out.2
            rw [e4] at fv'
            obtain rfl : vc = vc' := Option.some.inj fv'
            exact ffin' w5 _ _ ⟨hown5, hgrow5, hat5⟩ _ rfl HI.out
  · have hins : insW UU op r = none := by unfold insW; rw [if_pos (by rw [huu]; exact hn)]
    have hnb : ((r.length : Int) + 1 != 1 + (no : Int)) = true := by simp; omega
    have hnb2 : ((r.length : Int) + 1 == 1 + (no : Int)) = false := by simp; omega
    have HI := Lib.hid hins
    clear hins hn huu hno hon
    go_wp2_with fail
    trace_state
    go_ret
    exact HF.out V tV HI.out _ rfl
end Go.Proofs.YteebapopeaafhaaGreatDoor
