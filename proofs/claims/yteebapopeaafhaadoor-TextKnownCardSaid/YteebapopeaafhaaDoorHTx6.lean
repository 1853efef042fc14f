/-
  CONTRACTS: text's parser: an instruction. Conditions: sizes.
  CONTRACTS: text's parser: an import. Conditions: utf8's tables as they are laid; sizes.
-/
import Derived.Test.YteebapopeaafhaaDoorHTx4
import Derived.Test.YteebapopeaafhaaDoorHCode5
namespace Go.Tcn
open Go.RowKit
set_option linter.unusedVariables false
set_option linter.unusedSimpArgs false
/-- Operands, from the k-th on. -/
def contW (op : Int) : List Wd → Nat → Int → Int → Option Ins
  | [], _, a, b => some ⟨op, a, b⟩
  | w :: r, k, a, b => match numW w with
    | none => none
    | some n => if k = 0 then contW op r (k + 1) n b else contW op r (k + 1) a n
theorem cont_ins (op : Int) (ws : List Wd) (h : ws.length = UU.opnds op) (h2 : ws.length ≤ 2) : insW UU op ws = contW op ws 0 0 0 := by
  unfold insW
  rw [if_neg (fun e => e h)]
  match ws, h2 with
  | [], _ => rfl
  | [a], _ =>
    show (numW a).map _ = contW op [a] 0 0 0
    simp only [contW]
    cases numW a <;> rfl
  | [a, b], _ =>
    show (match numW a, numW b with | some x, some y => some (⟨op, x, y⟩ : Ins) | _, _ => none) = contW op [a, b] 0 0 0
    simp only [contW]
    cases numW a <;> cases numW b <;> rfl
end Go.Tcn
namespace Go.Proofs.YteebapopeaafhaaDoor
open Go.RowKit Go.Tcn
set_option linter.unusedVariables false
set_option linter.unusedSimpArgs false
set_option maxRecDepth 100000 in
set_option maxHeartbeats 4000000 in
theorem tx_instr (w : World) (b : Nat) (O : List Nat) (i : Img) (s : Nat) (f : Bool) (h : PTx w b O i s f) (hst : s = 3 → i.methods ≠ []) (hsz : i.methods.length ≤ 1099511627776) (hsc : ∀ m ∈ i.methods, m.code.length ≤ 1099511627776) (w0 : Wd) (a0 : Option Addr) (c0 : Nat) (ws : List Wd) (hw : Src w O (.slice a0 ws.length c0) ws.length (strs ws)) (hl : ws.length ≤ 1099511627776) (hwl : ∀ wd ∈ ws, wd.length ≤ 1099511627776) :
    Calls Tryd.prog 37 #[.pointer (some ⟨b, 0, none⟩), .string ⟨w0.toArray⟩, .slice a0 ws.length c0] w fun e w' => STx w w' b O f (instrT UU i s w0 ws) e := by
  obtain ⟨i0, hi, hz0, hz1, hz2⟩ := info_parts info_insT
  have hbO := h.b
  have H := Lib.hid h
  obtain ⟨vf, vi, vm, ve, q1, q2⟩ := h.cells
  obtain ⟨d0, d1, d2, d3, d4, d5, d6, hf⟩ := cells7 q1
  have hbl := heap_lt q1
  by_cases hs : s = 3
  · subst hs
    obtain ⟨ms, m, hms⟩ := last_of (hst rfl)
    obtain ⟨g, cap, vc, hvm, hgl, hgb, hgv, hgf, _, hvg, hvb, hvo, hput, _⟩ := q2.last hbl hms
    subst hvm
    have hml : i.methods.length = ms.length + 1 := by rw [hms]; simp
    have hmc := hsc m (by rw [hms]; simp)
    have hmm : i.methods ≠ [] := hst rfl
    have HX := Lib.hid (And.intro q1 (And.intro q2 (And.intro hms (And.intro hml hput))))
    rw [hml] at d3 hsz
    have hla := tx_last_yes w b g ms.length cap (by omega) d5 d3
    clear q1 q2 hms hst hput hsc hml hmm
    go_enter Tryd.func37, Tryd.ntmps37
    go_wp2_with fail
    refine hla.mono ?_
    rintro e w1 ⟨rfl, t1⟩
    clear hla
    go_wp2_with fail
    refine (code_Op w0 w1).mono ?_
    rintro e w2 ⟨rfl, t2⟩
    obtain ⟨op, hop⟩ : ∃ op, op = opAt w0 := ⟨_, rfl⟩
    rw [← hop]
    have HOP := Lib.hid hop
    clear hop
    have t12 := t1.then t2
    have h2 := H.out.tch0 t12
    have hno : ∀ w', Tch [] w2 w' → instrT UU i 3 w0 ws = none → ∀ e, e = .returned (.bool false) → STx w w' b O f (instrT UU i 3 w0 ws) e := fun w' t hq e he => by
      rw [hq]; exact STx.no he (h2.tch0 t).sh (t12.then t).nil
    have HNO := Lib.hid hno
    clear hno h2
    by_cases ho : op = 0
    · have hq : instrT UU i 3 w0 ws = none := by unfold instrT; rw [if_pos (.inr (by show opAt w0 = 0; rw [← HOP.out]; exact ho))]
      have hob : (op == 0) = true := by simp [ho]
      have HQ := Lib.hid hq
      clear hq ho
      go_wp2_with fail
      go_ret
      exact HNO.out _ ((Tch.refl [] w2).alloc _) HQ.out _ rfl
    · have hob : (op == 0) = false := by simp [ho]
      have HO := Lib.hid ho
      clear ho
      obtain ⟨V, hVd⟩ : ∃ V, V = w2.alloc (.cells #[.int .i64 op, .int .i64 0, .int .i64 0] 54) := ⟨_, rfl⟩
      have tV : Tch [] w2 V := by rw [hVd]; exact (Tch.refl [] w2).alloc _
      have hVb : V.heap[w2.heap.size]? = some (.cells #[.int .i64 op, .int .i64 0, .int .i64 0] 54 (0, 0)) := by rw [hVd]; exact heap_alloc_new w2 _
      go_upto_region 3 with fail
      rw [← hVd]
      clear hVd
      obtain ⟨gx, hgx⟩ : ∃ gx, gx = w2.heap.size := ⟨_, rfl⟩
      rw [← hgx] at hVb ⊢
      have HGX := Lib.hid hgx
      clear hgx
      have x0 : V.cell? ⟨gx, 0, none⟩ = some (.int .i64 op) := by simp [World.cell?, hVb]
      go_wp2_with fail
      refine (code_Operands op V).mono ?_
      rintro e w3 ⟨rfl, rfl⟩
      have hon : 0 ≤ opndN op ∧ opndN op ≤ 2 := by unfold opndN; repeat' split <;> omega
      by_cases hn : (ws.length : Int) = opndN op
      · have hnb : ((ws.length : Int) != opndN op) = false := by simp [hn]
        have hl2 : ws.length ≤ 2 := by omega
        have hins : insW UU op ws = contW op ws 0 0 0 := cont_ins op ws (by show ws.length = (opndN op).toNat; omega) hl2
        have hq : instrT UU i 3 w0 ws = (contW op ws 0 0 0).map fun x => ({ i with methods := ms ++ [{ m with code := m.code ++ [x] }] }, 3) := by
          obtain ⟨_, _, hms, _, _⟩ := HX.out
          unfold instrT
          have ho : UU.op w0 = op := HOP.out.symm
          rw [ho, if_neg (by have := HO.out; omega), hins, hms]
          simp only [addLast_snoc]
        have HQ := Lib.hid hq
        clear hq hn hon hins
        have hgxw : w2.heap.size ≤ gx := by rw [HGX.out]; exact Nat.le_refl _
        go_wp2_with fail
        go_loopw [35] (fun x wz => ∃ (k : Nat) (A B : Int), k ≤ ws.length ∧ x = .int .i64 k ∧ wz.heap[gx]? = some (.cells #[.int .i64 op, .int .i64 A, .int .i64 B] 54 (0, 0)) ∧ Hid (contW op ws 0 0 0 = contW op (ws.drop k) k A B) ∧ Tch [] w2 wz) (fun x _ => ws.length - (intOf x).toNat)
        case atStart => exact ⟨0, 0, 0, by omega, rfl, hVb, Lib.hid rfl, tV⟩
        case round =>
          obtain ⟨k, A, B, hk1, rfl, hgx, hct, ht⟩ := hrel
          clear hVb x0
          have y0 : wr.cell? ⟨gx, 0, none⟩ = some (.int .i64 op) := by simp [World.cell?, hgx]
          have y1 : wr.cell? ⟨gx, 1, none⟩ = some (.int .i64 A) := by simp [World.cell?, hgx]
          have y2 : wr.cell? ⟨gx, 2, none⟩ = some (.int .i64 B) := by simp [World.cell?, hgx]
          have yf : ∀ j, wr.frozen? ⟨gx, j, none⟩ = false := fun j => by simp [World.frozen?, hgx]
          by_cases hk : k < ws.length
          · obtain ⟨ad, rfl, hadl, _, hq⟩ := Src.at (hw.tch (t12.then ht) (by simp)) (j := k) (by simpa using hk)
            have hq0 : wr.cell? (ad.add k) = some (.string ⟨ws[k].toArray⟩) := by simpa [strs] using hq
            clear hq
            have hN := tx_number lib_Cut wr ws[k] (hwl _ (List.getElem_mem hk))
            have hdr : ws.drop k = ws[k] :: ws.drop (k + 1) := List.drop_eq_getElem_cons hk
            have hct1 := hct.out
            rw [hdr] at hct1
            clear hdr hct
            generalize ws[k] = wd at *
            have HC := Lib.hid (And.intro hct1 (And.intro hgx (And.intro ht (And.intro y0 (And.intro y1 (And.intro y2 yf))))))
            clear hct1 hgx ht y0 y1 y2 yf
            go_wp2_with fail
            refine hN.mono ?_
            rintro e w4 ⟨rfl, t4⟩
            clear hN
            have hgl4 := heap_lt HC.out.2.1
            have z1 := (t4.cell (p := ⟨gx, 1, none⟩) hgl4 (by simp)).trans HC.out.2.2.2.2.1
            have z2 := (t4.cell (p := ⟨gx, 2, none⟩) hgl4 (by simp)).trans HC.out.2.2.2.2.2.1
            have zf : ∀ j, w4.frozen? ⟨gx, j, none⟩ = false := fun j => (t4.frozen (p := ⟨gx, j, none⟩) hgl4 (by simp)).trans (HC.out.2.2.2.2.2.2 j)
            have zg : w4.heap[gx]? = some (.cells #[.int .i64 op, .int .i64 A, .int .i64 B] 54 (0, 0)) := (t4.block gx hgl4 (by simp)).trans HC.out.2.1
            have ZG := Lib.hid zg
            clear zg
            cases hnw : numW wd with
            | none =>
              rw [numTo_none hnw]
              have HZ := Lib.hid hnw
              clear hnw
              go_wp2_with fail
              go_ret
              obtain ⟨c1, c2, c3, _⟩ := HC.out
              refine HNO.out _ (c3.then t4) ?_ _ rfl
              rw [HQ.out, c1]
              simp only [contW, HZ.out]
              rfl
            | some n =>
              rw [numTo_some hnw]
              have HZ := Lib.hid hnw
              clear hnw
              by_cases hk0 : k = 0
              · subst hk0
                go_wp2_with fail
                go_roundw
                case rel =>
                  obtain ⟨c1, c2, c3, _⟩ := HC.out
                  refine ⟨1, n, B, by omega, rfl, set7 ZG.out 1 _, Lib.hid (by rw [c1]; simp only [contW, HZ.out]; rfl), (c3.then t4).setCell (.inr hgxw) _⟩
                case measure => simp [intOf]; omega
              · have hkb : ((k : Int) == 0) = false := by simp; omega
                have hkb2 : (k == 0) = false := by simp [hk0]
                have HK := Lib.hid hk0
                clear hk0
                go_wp2_with fail
                go_roundw
                case rel =>
                  obtain ⟨c1, c2, c3, _⟩ := HC.out
                  refine ⟨k + 1, A, n, by omega, by go_num, set7 ZG.out 2 _, Lib.hid (by rw [c1]; simp only [contW, HZ.out, if_neg HK.out]), (c3.then t4).setCell (.inr hgxw) _⟩
                case measure => simp [intOf]; omega
          · have hct1 := hct.out
            rw [List.drop_eq_nil_of_le (by omega)] at hct1
            have hq : instrT UU i 3 w0 ws = some ({ i with methods := ms ++ [{ m with code := m.code ++ [⟨op, A, B⟩] }] }, 3) := by rw [HQ.out, hct1]; rfl
            have HQ2 := Lib.hid hq
            clear hq hct1 hct HQ
            have tw := t12.then ht
            have hgr : g < wr.heap.size := Nat.lt_of_lt_of_le hgl tw.size
            have hgv2 := (tw.cell (p := ⟨g, ms.length * 4 + 3, none⟩) hgl (by simp)).trans hgv
            have hgf2 : wr.frozen? ⟨g, ms.length * 4 + 3, none⟩ = false := (tw.frozen (p := ⟨g, ms.length * 4 + 3, none⟩) hgl (by simp)).trans (hgf _)
            have hvo2 := ownsRow_tch hvo tw (by simp)
            have HT := Lib.hid (And.intro ht (And.intro tw hgx))
            clear ht tw hgx
            go_wp2_with fail
            have hneg : some g ≠ vc.ownBlock := fun h => hvg h.symm
            have hbnd : m.code.length + 1 ≤ 9223372036854775807 ∧ (m.code.length + 1) * 24 ≤ 140737488355328 := by omega
            go_region_law (first | (refine step_append_any _ rfl (.tmp 58) (.tmp 60) 50 rfl 54 i0 (.agg #[.int .i64 0, .int .i64 0, .int .i64 0]) 3 24 Tryd.underlying50 hi hz0 hz1 hz2 rfl (by decide) vc m.code.length (codeCells m.code) rfl (hvo2.alloc _).drew [] _ 1 [.int .i64 op, .int .i64 A, .int .i64 B] rfl (src_new wr _ [] #[.int .i64 op, .int .i64 A, .int .i64 B] _ 1 1 (Tch.refl [] _).drew (by simp)) rfl (by intro u hu; simp at hu; rcases hu with rfl | rfl | rfl <;> rfl) hbnd ?_; intro ao cap2 w5 hown5 hgrow5 hat5; have e5 : w5.cell? ⟨g, ms.length * 4 + 3, none⟩ = some vc := (hgrow5.cell_far ⟨g, ms.length * 4 + 3, none⟩ (by simp; omega) hneg).trans ((World.cell?_alloc_past _ _ _ hgr).trans hgv2); have f5 : w5.frozen? ⟨g, ms.length * 4 + 3, none⟩ = false := (hgrow5.frozen_far ⟨g, ms.length * 4 + 3, none⟩ (by simp; omega) hneg).trans ((World.frozen?_alloc_past _ _ _ hgr).trans hgf2)))
            all_goals
              go_wp2_with fail
              go_ret
              obtain ⟨q1, q2, hms, hml, _⟩ := HX.out
              obtain ⟨ht, tw, hgx⟩ := HT.out
              have ta : Tch [] wr ((wr.alloc (.cells #[.int .i64 op, .int .i64 A, .int .i64 B] 54)).drew) := ((Tch.refl [] wr).alloc _).drew
              have tw2 := tw.then ta
              have q3 := q2.tch0 tw2
              have hb3 := Nat.lt_of_lt_of_le hbl tw2.size
              obtain ⟨g', cap', vc', hvm', _, _, hcv', _, _, _, _, _, hput, _⟩ := q3.last hb3 hms
              simp only [Value.slice.injEq, Option.some.injEq, Addr.mk.injEq, and_true, true_and] at hvm'
              obtain ⟨rfl, rfl⟩ := hvm'
              have hvc : vc' = vc := by
                rw [tw2.cell (p := ⟨g, ms.length * 4 + 3, none⟩) hgl (by simp), hgv] at hcv'
                exact (Option.some.inj hcv').symm
              subst hvc
              obtain ⟨O', g1, g2, g3⟩ := hput w5 _ ⟨op, A, B⟩ _ ⟨hown5, hgrow5, hat5⟩
              rw [HQ2.out]
              refine STx.go rfl (O' := O') ⟨vf, vi, .slice (some ⟨g, 0, none⟩) i.methods.length cap, ve, ?_, g1⟩ tw2.nil g2 g3
              rw [Below.heap_setCell _ _ _ _ (by exact fun e => hgb e.symm), hgrow5.block b hb3 (fun e => hvb e.symm), tw2.block b hbl (by simp)]
              exact q1
      · have hnb : ((ws.length : Int) != opndN op) = true := by simp [hn]
        have hq : instrT UU i 3 w0 ws = none := by
          unfold instrT
          have ho : UU.op w0 = op := HOP.out.symm
          rw [ho, if_neg (by have := HO.out; omega)]
          unfold insW
          rw [if_pos (by show ¬ ws.length = (opndN op).toNat; omega)]
          rfl
        have HQ := Lib.hid hq
        clear hq hn hon
        go_wp2_with fail
        go_ret
        exact HNO.out _ tV HQ.out _ rfl
  · have hq : instrT UU i s w0 ws = none := by unfold instrT; rw [if_pos (.inl hs)]
    have hla := tx_last_no w b s hs d5
    have HQ := Lib.hid hq
    clear hq hs q1 q2 h hst
    go_enter Tryd.func37, Tryd.ntmps37
    go_wp2_with fail
    refine hla.mono ?_
    rintro e w1 ⟨rfl, rfl⟩
    go_wp2_with fail
    refine (code_Op w0 w).mono ?_
    rintro e w2 ⟨rfl, t2⟩
    obtain ⟨op, hop⟩ : ∃ op, op = opAt w0 := ⟨_, rfl⟩
    rw [← hop]
    clear hop
    go_wp2_with fail
    go_ret
    have ta := t2.alloc (.cells #[.int .i64 op, .int .i64 0, .int .i64 0] 54)
    rw [HQ.out]
    exact STx.no rfl (H.out.tch0 ta).sh ta.nil
end Go.Proofs.YteebapopeaafhaaDoor
namespace Go.Proofs.YteebapopeaafhaaDoor
open Go.RowKit Go.Tcn
set_option linter.unusedVariables false
set_option linter.unusedSimpArgs false
theorem numTo_any (w : Wd) : numTo w = .tuple #[.int .i64 ((numW w).getD 0), .bool (numW w).isSome] := by
  unfold numTo
  cases numW w <;> rfl
/-- What kinds hands back, whatever it is. -/
theorem kinds_any {w w' : World} {ws : List Wd} {e : Ending} (h : KindsTo 3 w w' ws e) : ∃ al l cl, e = .returned (.tuple #[.slice al l.length cl, .bool (kindsP UU ws).isSome]) ∧ NewRow w w' 3 1 (.slice al l.length cl) l.length (ints l) ∧ ((kindsP UU ws).isSome = true → kindsP UU ws = some l) := by
  unfold KindsTo at h
  cases hk : kindsP UU ws with
  | none =>
    rw [hk] at h
    exact ⟨none, [], 0, h, NewRow.nil _ _ _ _, by simp⟩
  | some l =>
    rw [hk] at h
    obtain ⟨v, rfl, hv⟩ := h
    obtain ⟨al, cl, rfl⟩ := ownsRow_form hv.1
    exact ⟨al, l, cl, rfl, hv, fun _ => rfl⟩
/-- utf8.ValidString's contract in all worlds in which only the blocks of O have turned. -/
def ValO (w : World) (O : List Nat) : Prop := ∀ nm w', nm.length ≤ 16 → Tch O w w' → Calls Tryd.prog 66 #[.string ⟨nm.toArray⟩] w' fun e w'' => e = .returned (.bool (Lib.validD nm)) ∧ Tch [] w' w''
theorem ValO.c {w : World} {O : List Nat} (h : ValO w O) : ValC w := fun nm w' hn t => h nm w' hn t.nil
theorem ValO.step {w w' : World} {O O' : List Nat} (h : ValO w O) (t : Tch O w w') (n : NewL w O O') : ValO w' O' := fun nm w'' hn t' => h nm w'' hn (t.step t' n)
theorem ValO.of {w w' : World} {O : List Nat} (h : ValC w) (t : Tch [] w w') (hO : ∀ k ∈ O, w.heap.size ≤ k) : ValO w' O := fun nm w'' hn t' => h nm w'' hn (t.trans t' (by simp) (fun k hk hx => by have := hO k hx; omega))
theorem one_imp (nm : Wd) (x r : Int) (al : Option Addr) (n c : Nat) : ∀ u ∈ [Value.string ⟨nm.toArray⟩, .int .i64 x, .slice al n c, .int .i64 r], u.oneCell' = true := by
  intro u hu
  simp at hu
  rcases hu with rfl | rfl | rfl | rfl <;> rfl
set_option maxRecDepth 100000 in
set_option maxHeartbeats 8000000 in
theorem tx_import (w : World) (b : Nat) (O : List Nat) (i : Img) (s : Nat) (f : Bool) (h : PTx w b O i s f) (hsz : i.imports.length ≤ 1099511627776) (a0 : Option Addr) (c0 : Nat) (ws : List Wd) (hw : Src w O (.slice a0 ws.length c0) ws.length (strs ws)) (hl : ws.length ≤ 1099511627776) (hwl : ∀ wd ∈ ws, wd.length ≤ 1099511627776) (hV : ValO w O) :
    Calls Tryd.prog 33 #[.pointer (some ⟨b, 0, none⟩), .slice a0 ws.length c0] w fun e w' => STx w w' b O f (importT UU i s ws) e := by
  obtain ⟨i0, hi, hz0, hz1, hz2⟩ := info_parts info_impT
  have hr := tx_reach w b O i s 2 f h
  have hbl := h.lt
  have hbO := h.b
  clear h
  go_enter Tryd.func33, Tryd.ntmps33
  go_wp2_with fail
  refine hr.mono ?_
  rintro e w2 ⟨rfl, t2, h2⟩
  have tt : Tch O w w2 := t2.mono (fun k _ hk => by simp at hk; subst hk; exact hbO)
  clear hr
  cases hrb : reachB i s 2
  · have hq : importT UU i s ws = none := by unfold importT; rw [if_pos (reach_no hrb)]
    have HH := Lib.hid (And.intro hq (And.intro tt h2.sh))
    clear hq tt h2 t2
    go_wp2_with fail
    go_ret
    rw [HH.out.1]
    exact STx.no rfl HH.out.2.2 HH.out.2.1
  · rw [hrb, if_pos rfl] at h2
    have HR := Lib.hid (reach_yes hrb)
    have hw2 := hw.tch t2 (fun k hk _ => by simp at hk; subst hk; exact hbO)
    obtain hl3 | ⟨wd, ew, kw, ps, rfl⟩ : ws.length < 3 ∨ ∃ a b c ps, ws = a :: b :: c :: ps := by
      match ws with
      | [] => exact .inl (by simp)
      | [_] => exact .inl (by simp)
      | [_, _] => exact .inl (by simp)
      | a :: b :: c :: ps => exact .inr ⟨a, b, c, ps, rfl⟩
    · have hq : importT UU i s ws = none := by
        unfold importT; rw [if_neg HR.out]
        match ws, hl3 with
        | [], _ => rfl
        | [_], _ => rfl
        | [_, _], _ => rfl
      have hd : decide ((ws.length : Int) < 3) = true := decide_eq_true (by omega)
      have HH := Lib.hid (And.intro hq (And.intro tt h2.sh))
      clear hq tt h2 t2 hl3
      go_wp2_with fail
      go_ret
      rw [HH.out.1]
      exact STx.no rfl HH.out.2.2 HH.out.2.1
    · have hat : ∀ j, j < 3 → (wd :: ew :: kw :: ps).length = ps.length + 3 := fun _ _ => rfl
      have hlw : (wd :: ew :: kw :: ps).length = ps.length + 3 := rfl
      obtain ⟨ad, rfl, hadl, hadO, hq⟩ := Src.at hw2 (j := 0) (by simp)
      obtain ⟨ad1, e1, _, _, hq1⟩ := Src.at hw2 (j := 1) (by simp)
      obtain ⟨ad2, e2, _, _, hq2⟩ := Src.at hw2 (j := 2) (by simp)
      simp only [Option.some.injEq] at e1 e2
      subst e1 e2
      rw [Addr_add_zero] at hq
      have hw0 : w2.cell? ad = some (.string ⟨wd.toArray⟩) := by simpa [strs] using hq
      have hw1 : w2.cell? (ad.add 1) = some (.string ⟨ew.toArray⟩) := by simpa [strs] using hq1
      have hw2' : w2.cell? (ad.add 2) = some (.string ⟨kw.toArray⟩) := by simpa [strs] using hq2
      have ha1 : ad.add 1 = ⟨ad.block, ad.off + 1, none⟩ := by simp [Addr.add]
      have ha2 : ad.add 2 = ⟨ad.block, ad.off + 2, none⟩ := by simp [Addr.add]
      rw [ha1] at hw1
      rw [ha2] at hw2'
      obtain ⟨hcut, hsrc⟩ := cut_words hw2 (n := 3) (by simp)
      have e1 : (wd :: ew :: kw :: ps).drop 3 = ps := rfl
      rw [e1] at hsrc
      rw [hlw] at hcut hl
      have e2 : ps.length + 3 - 3 = ps.length := rfl
      rw [e2] at hcut
      generalize cutA (some ad) 3 1 c0 = ax at hcut hsrc
      have hcut1 : ∀ w', (Instr.slice 39 (.slice (some ad) (ps.length + 3) c0) (some (.int .i64 3)) none none).run Tryd.prog w' = .ok (.slice ax ps.length (c0 - 3)) w' := hcut
      clear hcut
      generalize c0 - 3 = c1 at hcut1 hsrc
      have hIs := im_IsName w2 wd (fun h16 w' t => hV wd w' h16 (tt.trans t (fun _ _ h => h) (by simp)))
      have hN := fun (W : World) => tx_number lib_Cut W ew (hwl ew (by simp))
      have hOl : ∀ k ∈ O, k < w2.heap.size := by
        obtain ⟨_, _, _, _, _, hio⟩ := (show PTx w2 b O i 2 f from h2).cells
        exact hio.lt h2.lt
      have HT := Lib.hid (And.intro tt (And.intro hOl h2))
      have HSR := Lib.hid hsrc
      have hlp : ps.length ≤ 1099511627776 := by omega
      clear hq hq1 hq2 hat hw hw2 hV tt t2 h2 hsrc ha1 ha2 hwl hOl
      go_wp2_with fail
      refine hIs.mono ?_
      rintro e w3 ⟨rfl, t3⟩
      clear hIs
      cases hnm : nameB wd
      · have hq : importT UU i s (wd :: ew :: kw :: ps) = none := by
          unfold importT; rw [if_neg HR.out]
          simp only
          rw [if_neg (fun h => by have h1 : nameB wd = true := h.1; rw [hnm] at h1; cases h1)]
        have HQ := Lib.hid hq
        clear hq
        go_wp2_with fail
        go_ret
        rw [HQ.out]
        exact STx.no rfl (HT.out.2.2.tch0 t3).sh (HT.out.1.trans t3 (fun _ _ h => h) (by simp))
      · have g1 := (t3.cell (p := ⟨ad.block, ad.off + 1, none⟩) hadl (by simp)).trans hw1
        have g2 := (t3.cell (p := ⟨ad.block, ad.off + 2, none⟩) hadl (by simp)).trans hw2'
        have g0 := (t3.cell (p := ad) hadl (by simp)).trans hw0
        have HN := Lib.hid hnm
        have HA := Lib.hid hadl
        clear hnm hw0 hw1 hw2'
        go_wp2_with fail
        refine (hN w3).mono ?_
        rintro e w4 ⟨rfl, t4⟩
        rw [numTo_any]
        have hal3 := Nat.lt_of_lt_of_le HA.out t3.size
        have k2 := (t4.cell (p := ⟨ad.block, ad.off + 2, none⟩) hal3 (by simp)).trans g2
        have k0 := (t4.cell (p := ad) hal3 (by simp)).trans g0
        clear hN g0 g1 g2
        obtain ⟨x, hx⟩ : ∃ x, x = (numW ew).getD 0 := ⟨_, rfl⟩
        obtain ⟨ok, hok⟩ : ∃ ok, ok = (numW ew).isSome := ⟨_, rfl⟩
        rw [← hx, ← hok]
        have HXO := Lib.hid (And.intro hx hok)
        clear hx hok
        go_wp2_with fail
        refine (tx_Kind w4 kw).mono ?_
        rintro e w5 ⟨rfl, rfl⟩
        have t34 := t3.then t4
        have hK := tx_kinds w4 O ax c1 ps (HSR.out.tch t34 (by simp)) hlp
        go_wp2_with fail
        refine hK.mono ?_
        rintro e w5 ⟨t5, hk5⟩
        clear hK
        obtain ⟨al, l, cl, rfl, hv, hkl⟩ := kinds_any hk5
        have t35 := t34.then t5
        have l0 := (t5.cell (p := ad) (Nat.lt_of_lt_of_le hal3 t4.size) (by simp)).trans k0
        clear k0 k2 hk5
        obtain ⟨is, his⟩ : ∃ is, is = (kindsP UU ps).isSome := ⟨_, rfl⟩
        obtain ⟨r, hrr⟩ : ∃ r, r = kindW kw := ⟨_, rfl⟩
        rw [← his, ← hrr]
        rw [← his] at hkl
        have h5 := HT.out.2.2.tch0 t35
        obtain ⟨vf, vi, vm, ve, q1, q2⟩ := (show PTx w5 b O i 2 f from h5).cells
        obtain ⟨d0, d1, d2, d3, d4, d5, d6, hf⟩ := cells7 q1
        obtain ⟨ics, hown, hneb, hput⟩ := q2.ownI
        have hbnd : i.imports.length + 1 ≤ 9223372036854775807 ∧ (i.imports.length + 1) * 56 ≤ 140737488355328 := by omega
        have hb2 := heap_lt q1
        have hneb' : some b ≠ vi.ownBlock := fun h => hneb h.symm
        have HK := Lib.hid (And.intro his (And.intro hrr hkl))
        have HQ := Lib.hid (And.intro q1 (And.intro q2 hput))
        have HV := Lib.hid hv
        have H35 := Lib.hid t35
        have H4 := Lib.hid t34
        clear q1 q2 h5 hput his hrr hkl hv t3 t4 t5 t34 t35
        have hfin : ∀ (ao : Option Addr) (cap2 : Nat) (w6 : World), w6.ownsRow 0 57 4 (.slice ao (i.imports.length + 1) cap2) (i.imports.length + 1) (ics ++ [.string ⟨wd.toArray⟩, .int .i64 x, .slice al l.length cl, .int .i64 r]) → ((w5.alloc (.cells #[.string ⟨wd.toArray⟩, .int .i64 x, .slice al l.length cl, .int .i64 r] 57)).drew).grownBy w6 vi.ownBlock →
            ((Value.slice ao (i.imports.length + 1) cap2).ownBlock = vi.ownBlock ∨ (Value.slice ao (i.imports.length + 1) cap2).ownBlock = some ((w5.alloc (.cells #[.string ⟨wd.toArray⟩, .int .i64 x, .slice al l.length cl, .int .i64 r] 57)).drew).heap.size) →
            ∀ e, e = .returned (.bool (ok && is && decide (0 ≤ r))) → STx w (w6.setCell ⟨b, 2, none⟩ (.slice ao (i.imports.length + 1) cap2)) b O f (importT UU i s (wd :: ew :: kw :: ps)) e := by
          intro ao cap2 w6 hown6 hgrow6 hat6 e he
          obtain ⟨q1, q2, _⟩ := HQ.out
          obtain ⟨tt, hOl, h2⟩ := HT.out
          have ta : Tch [] w5 ((w5.alloc (.cells #[.string ⟨wd.toArray⟩, .int .i64 x, .slice al l.length cl, .int .i64 r] 57)).drew) := ((Tch.refl [] w5).alloc _).drew
          obtain ⟨ics2, o2, _, hput⟩ := (q2.tch0 ta).ownI
          have hmc : ics2 = ics := own_cells o2 (hown.alloc _).drew
          subst hmc
          have hRl : RInts ((w5.alloc (.cells #[.string ⟨wd.toArray⟩, .int .i64 x, .slice al l.length cl, .int .i64 r] 57)).drew) O (.slice al l.length cl) l := (HV.out.tch ta).src O (fun k hk => by
            have := hOl k hk
            have h34 := H4.out.size
            omega)
          have hb2a := Nat.lt_of_lt_of_le hb2 ta.size
          obtain ⟨O', g1, g2, g3⟩ := PT1.put ((ta.block b hb2 (by simp)).trans q1) (hput w6 (.slice ao (i.imports.length + 1) cap2) (.slice al l.length cl) ⟨wd, x, l, r⟩ _ hb2a ⟨hown6, hgrow6, hat6⟩ hRl) (hgrow6.block b hb2a hneb') hbO 2 (.slice ao (i.imports.length + 1) cap2) rfl
          have tz : Tch O w ((w5.alloc (.cells #[.string ⟨wd.toArray⟩, .int .i64 x, .slice al l.length cl, .int .i64 r] 57)).drew) := tt.trans (H35.out.then ta) (fun _ _ h => h) (by simp)
          obtain ⟨hx, hok⟩ := HXO.out
          obtain ⟨his, hrr, hkl⟩ := HK.out
          have hwN : UU.isName wd = true := HN.out
          by_cases hall : ok = true ∧ is = true ∧ 0 ≤ r
          · obtain ⟨a1, a2, a3⟩ := hall
            have hnum : numW ew = some x := by
              rw [a1] at hok
              obtain ⟨y, hy⟩ := Option.isSome_iff_exists.1 hok.symm
              rw [hx, hy]; rfl
            have hq : importT UU i s (wd :: ew :: kw :: ps) = some ({ i with imports := i.imports ++ [⟨wd, x, l, r⟩] }, 2) := by
              unfold importT; rw [if_neg HR.out]
              simp only
              rw [if_pos ⟨hwN, by show 0 ≤ kindW kw; rw [← hrr]; exact a3⟩]
              have h1 : UU.num ew = some x := hnum
              have h2 : kindsP UU ps = some l := hkl a2
              rw [h1, h2]
              show some _ = some _
              rw [hrr]; rfl
            rw [hq]
            exact STx.go (by rw [he, a1, a2, decide_eq_true a3]; rfl) g1 tz g2 g3
          · have hq : importT UU i s (wd :: ew :: kw :: ps) = none := by
              unfold importT; rw [if_neg HR.out]
              simp only
              by_cases h0 : 0 ≤ r
              · rw [if_pos ⟨hwN, by show 0 ≤ kindW kw; rw [← hrr]; exact h0⟩]
                have h1 : UU.num ew = numW ew := rfl
                rw [h1]
                cases hn : numW ew with
                | none => rfl
                | some y =>
                  cases hp : kindsP UU ps with
                  | none => rfl
                  | some l' =>
                    rw [hn] at hok; rw [hp] at his
                    exact absurd ⟨hok, his, h0⟩ hall
              · rw [if_neg (fun h => h0 (by rw [hrr]; exact h.2))]
            have hb : (ok && is && decide (0 ≤ r)) = false := by
              cases ok <;> cases is <;> simp at hall ⊢
              omega
            rw [hq]
            exact STx.no (by rw [he, hb]) g1.sh (tz.trans g2 (fun _ _ h => h) (fun _ _ h => h))
        have HF := Lib.hid hfin
        clear hfin
        go_wp2_with fail
        go_region_law (first | (refine step_append_any _ rfl (.tmp 47) (.tmp 55) 26 rfl 57 i0 (.agg #[.string ⟨#[]⟩, .int .i64 0, .slice none 0 0, .int .i64 0]) 4 56 Tryd.underlying26 hi hz0 hz1 hz2 rfl (by decide) vi i.imports.length ics rfl (hown.alloc _).drew [] _ 1 [.string ⟨wd.toArray⟩, .int .i64 x, .slice al l.length cl, .int .i64 r] rfl (src_new w5 _ [] #[.string ⟨wd.toArray⟩, .int .i64 x, .slice al l.length cl, .int .i64 r] _ 1 1 (Tch.refl [] _).drew (by simp)) rfl (one_imp _ _ _ _ _ _) hbnd ?_; intro ao cap2 w6 hown6 hgrow6 hat6; have e6 : w6.cell? ⟨b, 2, none⟩ = some vi := (hgrow6.cell_far ⟨b, 2, none⟩ (by simp; omega) hneb').trans ((World.cell?_alloc_past _ _ _ hb2).trans d2); have f6 : w6.frozen? ⟨b, 2, none⟩ = false := (hgrow6.frozen_far ⟨b, 2, none⟩ (by simp; omega) hneb').trans ((World.frozen?_alloc_past _ _ _ hb2).trans (hf 2))))
        all_goals
          clear e6 f6
          cases ok
          · go_wp2_with fail
            go_ret
            exact HF.out _ _ _ hown6 hgrow6 hat6 _ rfl
          · cases is
            · go_wp2_with fail
              go_ret
              exact HF.out _ _ _ hown6 hgrow6 hat6 _ rfl
            · go_wp2_with fail
              go_ret
              exact HF.out _ _ _ hown6 hgrow6 hat6 _ rfl
end Go.Proofs.YteebapopeaafhaaDoor
