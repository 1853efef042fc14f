/-
  CONTRACTS: text's parser: an instruction. Conditions: sizes.
-/
import Derived.Test.YteebapopeaafhaaDoorHTx4
import Derived.Test.YteebapopeaafhaaDoorHCode5
namespace Go.Tcn
open Go.RowKit
set_option linter.unusedVariables false
set_option linter.unusedSimpArgs false
/-- Operands, from the k-th on. -/
def contW (op : Int) : List Wd → Nat → Int → Int → Option Ins
  | [], _, a, b => some ⟨op, a, b⟩
  | w :: r, k, a, b => match numW w with
    | none => none
    | some n => if k = 0 then contW op r (k + 1) n b else contW op r (k + 1) a n
theorem cont_ins (op : Int) (ws : List Wd) (h : ws.length = UU.opnds op) (h2 : ws.length ≤ 2) : insW UU op ws = contW op ws 0 0 0 := by
  unfold insW
  rw [if_neg (fun e => e h)]
  match ws, h2 with
  | [], _ => rfl
  | [a], _ =>
    show (numW a).map _ = contW op [a] 0 0 0
    simp only [contW]
    cases numW a <;> rfl
  | [a, b], _ =>
    show (match numW a, numW b with | some x, some y => some (⟨op, x, y⟩ : Ins) | _, _ => none) = contW op [a, b] 0 0 0
    simp only [contW]
    cases numW a <;> cases numW b <;> rfl
end Go.Tcn
namespace Go.Proofs.YteebapopeaafhaaDoor
open Go.RowKit Go.Tcn
set_option linter.unusedVariables false
set_option linter.unusedSimpArgs false
set_option maxRecDepth 100000 in
set_option maxHeartbeats 4000000 in
theorem tx_instr (w : World) (b : Nat) (O : List Nat) (i : Img) (s : Nat) (f : Bool) (h : PTx w b O i s f) (hst : s = 3 → i.methods ≠ []) (hsz : i.methods.length ≤ 1099511627776) (hsc : ∀ m ∈ i.methods, m.code.length ≤ 1099511627776) (w0 : Wd) (a0 : Option Addr) (c0 : Nat) (ws : List Wd) (hw : Src w O (.slice a0 ws.length c0) ws.length (strs ws)) (hl : ws.length ≤ 1099511627776) (hwl : ∀ wd ∈ ws, wd.length ≤ 1099511627776) :
    Calls Tryd.prog 37 #[.pointer (some ⟨b, 0, none⟩), .string ⟨w0.toArray⟩, .slice a0 ws.length c0] w fun e w' => STx w w' b O f (instrT UU i s w0 ws) e := by
  obtain ⟨i0, hi, hz0, hz1, hz2⟩ := info_parts info_insT
  have hbO := h.b
  have H := Lib.hid h
  obtain ⟨vf, vi, vm, ve, q1, q2⟩ := h.cells
  obtain ⟨d0, d1, d2, d3, d4, d5, d6, hf⟩ := cells7 q1
  have hbl := heap_lt q1
  by_cases hs : s = 3
  · subst hs
    obtain ⟨ms, m, hms⟩ := last_of (hst rfl)
    obtain ⟨g, cap, vc, hvm, hgl, hgb, hgv, hgf, _, hvg, hvb, hvo, hput, _⟩ := q2.last hbl hms
    subst hvm
    have hml : i.methods.length = ms.length + 1 := by rw [hms]; simp
    have hmc := hsc m (by rw [hms]; simp)
    have hmm : i.methods ≠ [] := hst rfl
    have HX := Lib.hid (And.intro q1 (And.intro q2 (And.intro hms (And.intro hml hput))))
    rw [hml] at d3 hsz
    have hla := tx_last_yes w b g ms.length cap (by omega) d5 d3
    clear q1 q2 hms hst hput hsc hml hmm
    go_enter Tryd.func37, Tryd.ntmps37
    go_wp2_with fail
    refine hla.mono ?_
    rintro e w1 ⟨rfl, t1⟩
    clear hla
    go_wp2_with fail
    refine (code_Op w0 w1).mono ?_
    rintro e w2 ⟨rfl, t2⟩
    obtain ⟨op, hop⟩ : ∃ op, op = opAt w0 := ⟨_, rfl⟩
    rw [← hop]
    have HOP := Lib.hid hop
    clear hop
    have t12 := t1.then t2
    have h2 := H.out.tch0 t12
    have hno : ∀ w', Tch [] w2 w' → instrT UU i 3 w0 ws = none → ∀ e, e = .returned (.bool false) → STx w w' b O f (instrT UU i 3 w0 ws) e := fun w' t hq e he => by
      rw [hq]; exact STx.no he (h2.tch0 t).sh (t12.then t).nil
    have HNO := Lib.hid hno
    clear hno h2
    by_cases ho : op = 0
    · have hq : instrT UU i 3 w0 ws = none := by unfold instrT; rw [if_pos (.inr (by show opAt w0 = 0; rw [← HOP.out]; exact ho))]
      have hob : (op == 0) = true := by simp [ho]
      have HQ := Lib.hid hq
      clear hq ho
      go_wp2_with fail
      go_ret
      exact HNO.out _ ((Tch.refl [] w2).alloc _) HQ.out _ rfl
    · have hob : (op == 0) = false := by simp [ho]
      have HO := Lib.hid ho
      clear ho
      obtain ⟨V, hVd⟩ : ∃ V, V = w2.alloc (.cells #[.int .i64 op, .int .i64 0, .int .i64 0] 54) := ⟨_, rfl⟩
      have tV : Tch [] w2 V := by rw [hVd]; exact (Tch.refl [] w2).alloc _
      have hVb : V.heap[w2.heap.size]? = some (.cells #[.int .i64 op, .int .i64 0, .int .i64 0] 54 (0, 0)) := by rw [hVd]; exact heap_alloc_new w2 _
      go_upto_region 3 with fail
      rw [← hVd]
      clear hVd
      obtain ⟨gx, hgx⟩ : ∃ gx, gx = w2.heap.size := ⟨_, rfl⟩
      rw [← hgx] at hVb ⊢
      have HGX := Lib.hid hgx
      clear hgx
      have x0 : V.cell? ⟨gx, 0, none⟩ = some (.int .i64 op) := by simp [World.cell?, hVb]
      go_wp2_with fail
      refine (code_Operands op V).mono ?_
      rintro e w3 ⟨rfl, rfl⟩
      have hon : 0 ≤ opndN op ∧ opndN op ≤ 2 := by unfold opndN; repeat' split <;> omega
      by_cases hn : (ws.length : Int) = opndN op
      · have hnb : ((ws.length : Int) != opndN op) = false := by simp [hn]
        have hl2 : ws.length ≤ 2 := by omega
        have hins : insW UU op ws = contW op ws 0 0 0 := cont_ins op ws (by show ws.length = (opndN op).toNat; omega) hl2
        have hq : instrT UU i 3 w0 ws = (contW op ws 0 0 0).map fun x => ({ i with methods := ms ++ [{ m with code := m.code ++ [x] }] }, 3) := by
          obtain ⟨_, _, hms, _, _⟩ := HX.out
          unfold instrT
          have ho : UU.op w0 = op := HOP.out.symm
          rw [ho, if_neg (by have := HO.out; omega), hins, hms]
          simp only [addLast_snoc]
        have HQ := Lib.hid hq
        clear hq hn hon hins
        have hgxw : w2.heap.size ≤ gx := by rw [HGX.out]; exact Nat.le_refl _
        go_wp2_with fail
        go_loopw [35] (fun x wz => ∃ (k : Nat) (A B : Int), k ≤ ws.length ∧ x = .int .i64 k ∧ wz.heap[gx]? = some (.cells #[.int .i64 op, .int .i64 A, .int .i64 B] 54 (0, 0)) ∧ Hid (contW op ws 0 0 0 = contW op (ws.drop k) k A B) ∧ Tch [] w2 wz) (fun x _ => ws.length - (intOf x).toNat)
        case atStart => exact ⟨0, 0, 0, by omega, rfl, hVb, Lib.hid rfl, tV⟩
        case round =>
          obtain ⟨k, A, B, hk1, rfl, hgx, hct, ht⟩ := hrel
          clear hVb x0
          have y0 : wr.cell? ⟨gx, 0, none⟩ = some (.int .i64 op) := by simp [World.cell?, hgx]
          have y1 : wr.cell? ⟨gx, 1, none⟩ = some (.int .i64 A) := by simp [World.cell?, hgx]
          have y2 : wr.cell? ⟨gx, 2, none⟩ = some (.int .i64 B) := by simp [World.cell?, hgx]
          have yf : ∀ j, wr.frozen? ⟨gx, j, none⟩ = false := fun j => by simp [World.frozen?, hgx]
          by_cases hk : k < ws.length
          · obtain ⟨ad, rfl, hadl, _, hq⟩ := Src.at (hw.tch (t12.then ht) (by simp)) (j := k) (by simpa using hk)
            have hq0 : wr.cell? (ad.add k) = some (.string ⟨ws[k].toArray⟩) := by simpa [strs] using hq
            clear hq
            have hN := tx_number lib_Cut wr ws[k] (hwl _ (List.getElem_mem hk))
            have hdr : ws.drop k = ws[k] :: ws.drop (k + 1) := List.drop_eq_getElem_cons hk
            have hct1 := hct.out
            rw [hdr] at hct1
            clear hdr hct
            generalize ws[k] = wd at *
            have HC := Lib.hid (And.intro hct1 (And.intro hgx (And.intro ht (And.intro y0 (And.intro y1 (And.intro y2 yf))))))
            clear hct1 hgx ht y0 y1 y2 yf
            go_wp2_with fail
            refine hN.mono ?_
            rintro e w4 ⟨rfl, t4⟩
            clear hN
            have hgl4 := heap_lt HC.out.2.1
            have z1 := (t4.cell (p := ⟨gx, 1, none⟩) hgl4 (by simp)).trans HC.out.2.2.2.2.1
            have z2 := (t4.cell (p := ⟨gx, 2, none⟩) hgl4 (by simp)).trans HC.out.2.2.2.2.2.1
            have zf : ∀ j, w4.frozen? ⟨gx, j, none⟩ = false := fun j => (t4.frozen (p := ⟨gx, j, none⟩) hgl4 (by simp)).trans (HC.out.2.2.2.2.2.2 j)
            have zg : w4.heap[gx]? = some (.cells #[.int .i64 op, .int .i64 A, .int .i64 B] 54 (0, 0)) := (t4.block gx hgl4 (by simp)).trans HC.out.2.1
            have ZG := Lib.hid zg
            clear zg
            cases hnw : numW wd with
            | none =>
              rw [numTo_none hnw]
              have HZ := Lib.hid hnw
              clear hnw
              go_wp2_with fail
              go_ret
              obtain ⟨c1, c2, c3, _⟩ := HC.out
              refine HNO.out _ (c3.then t4) ?_ _ rfl
              rw [HQ.out, c1]
              simp only [contW, HZ.out]
              rfl
            | some n =>
              rw [numTo_some hnw]
              have HZ := Lib.hid hnw
              clear hnw
              by_cases hk0 : k = 0
              · subst hk0
                go_wp2_with fail
                go_roundw
                case rel =>
                  obtain ⟨c1, c2, c3, _⟩ := HC.out
                  refine ⟨1, n, B, by omega, rfl, set7 ZG.out 1 _, Lib.hid (by rw [c1]; simp only [contW, HZ.out]; rfl), (c3.then t4).setCell (.inr hgxw) _⟩
                case measure => simp [intOf]; omega
              · have hkb : ((k : Int) == 0) = false := by simp; omega
                have hkb2 : (k == 0) = false := by simp [hk0]
                have HK := Lib.hid hk0
                clear hk0
                go_wp2_with fail
                go_roundw
                case rel =>
                  obtain ⟨c1, c2, c3, _⟩ := HC.out
                  refine ⟨k + 1, A, n, by omega, by go_num, set7 ZG.out 2 _, Lib.hid (by rw [c1]; simp only [contW, HZ.out, if_neg HK.out]), (c3.then t4).setCell (.inr hgxw) _⟩
                case measure => simp [intOf]; omega
          · have hct1 := hct.out
            rw [List.drop_eq_nil_of_le (by omega)] at hct1
            have hq : instrT UU i 3 w0 ws = some ({ i with methods := ms ++ [{ m with code := m.code ++ [⟨op, A, B⟩] }] }, 3) := by rw [HQ.out, hct1]; rfl
            have HQ2 := Lib.hid hq
            clear hq hct1 hct HQ
            have tw := t12.then ht
            have hgr : g < wr.heap.size := Nat.lt_of_lt_of_le hgl tw.size
            have hgv2 := (tw.cell (p := ⟨g, ms.length * 4 + 3, none⟩) hgl (by simp)).trans hgv
            have hgf2 : wr.frozen? ⟨g, ms.length * 4 + 3, none⟩ = false := (tw.frozen (p := ⟨g, ms.length * 4 + 3, none⟩) hgl (by simp)).trans (hgf _)
            have hvo2 := ownsRow_tch hvo tw (by simp)
            have HT := Lib.hid (And.intro ht (And.intro tw hgx))
            clear ht tw hgx
            go_wp2_with fail
            have hneg : some g ≠ vc.ownBlock := fun h => hvg h.symm
            have hbnd : m.code.length + 1 ≤ 9223372036854775807 ∧ (m.code.length + 1) * 24 ≤ 140737488355328 := by omega
            go_region_law (first | (refine step_append_any _ rfl (.tmp 58) (.tmp 60) 50 rfl 54 i0 (.agg #[.int .i64 0, .int .i64 0, .int .i64 0]) 3 24 Tryd.underlying50 hi hz0 hz1 hz2 rfl (by decide) vc m.code.length (codeCells m.code) rfl (hvo2.alloc _).drew [] _ 1 [.int .i64 op, .int .i64 A, .int .i64 B] rfl (src_new wr _ [] #[.int .i64 op, .int .i64 A, .int .i64 B] _ 1 1 (Tch.refl [] _).drew (by simp)) rfl (by intro u hu; simp at hu; rcases hu with rfl | rfl | rfl <;> rfl) hbnd ?_; intro ao cap2 w5 hown5 hgrow5 hat5; have e5 : w5.cell? ⟨g, ms.length * 4 + 3, none⟩ = some vc := (hgrow5.cell_far ⟨g, ms.length * 4 + 3, none⟩ (by simp; omega) hneg).trans ((World.cell?_alloc_past _ _ _ hgr).trans hgv2); have f5 : w5.frozen? ⟨g, ms.length * 4 + 3, none⟩ = false := (hgrow5.frozen_far ⟨g, ms.length * 4 + 3, none⟩ (by simp; omega) hneg).trans ((World.frozen?_alloc_past _ _ _ hgr).trans hgf2)))
            all_goals
              go_wp2_with fail
              go_ret
              obtain ⟨q1, q2, hms, hml, _⟩ := HX.out
              obtain ⟨ht, tw, hgx⟩ := HT.out
              have ta : Tch [] wr ((wr.alloc (.cells #[.int .i64 op, .int .i64 A, .int .i64 B] 54)).drew) := ((Tch.refl [] wr).alloc _).drew
              have tw2 := tw.then ta
              have q3 := q2.tch0 tw2
              have hb3 := Nat.lt_of_lt_of_le hbl tw2.size
              obtain ⟨g', cap', vc', hvm', _, _, hcv', _, _, _, _, _, hput, _⟩ := q3.last hb3 hms
              simp only [Value.slice.injEq, Option.some.injEq, Addr.mk.injEq, and_true, true_and] at hvm'
              obtain ⟨rfl, rfl⟩ := hvm'
              have hvc : vc' = vc := by
                rw [tw2.cell (p := ⟨g, ms.length * 4 + 3, none⟩) hgl (by simp), hgv] at hcv'
                exact (Option.some.inj hcv').symm
              subst hvc
              obtain ⟨O', g1, g2, g3⟩ := hput w5 _ ⟨op, A, B⟩ _ ⟨hown5, hgrow5, hat5⟩
              rw [HQ2.out]
              refine STx.go rfl (O' := O') ⟨vf, vi, .slice (some ⟨g, 0, none⟩) i.methods.length cap, ve, ?_, g1⟩ tw2.nil g2 g3
              rw [Below.heap_setCell _ _ _ _ (by exact fun e => hgb e.symm), hgrow5.block b hb3 (fun e => hvb e.symm), tw2.block b hbl (by simp)]
              exact q1
      · have hnb : ((ws.length : Int) != opndN op) = true := by simp [hn]
        have hq : instrT UU i 3 w0 ws = none := by
          unfold instrT
          have ho : UU.op w0 = op := HOP.out.symm
          rw [ho, if_neg (by have := HO.out; omega)]
          unfold insW
          rw [if_pos (by show ¬ ws.length = (opndN op).toNat; omega)]
          rfl
        have HQ := Lib.hid hq
        clear hq hn hon
        go_wp2_with fail
        go_ret
        exact HNO.out _ tV HQ.out _ rfl
  · have hq : instrT UU i s w0 ws = none := by unfold instrT; rw [if_pos (.inl hs)]
    have hla := tx_last_no w b s hs d5
    have HQ := Lib.hid hq
    clear hq hs q1 q2 h hst
    go_enter Tryd.func37, Tryd.ntmps37
    go_wp2_with fail
    refine hla.mono ?_
    rintro e w1 ⟨rfl, rfl⟩
    go_wp2_with fail
    refine (code_Op w0 w).mono ?_
    rintro e w2 ⟨rfl, t2⟩
    obtain ⟨op, hop⟩ : ∃ op, op = opAt w0 := ⟨_, rfl⟩
    rw [← hop]
    clear hop
    go_wp2_with fail
    go_ret
    have ta := t2.alloc (.cells #[.int .i64 op, .int .i64 0, .int .i64 0] 54)
    rw [HQ.out]
    exact STx.no rfl (H.out.tch0 ta).sh ta.nil
end Go.Proofs.YteebapopeaafhaaDoor
