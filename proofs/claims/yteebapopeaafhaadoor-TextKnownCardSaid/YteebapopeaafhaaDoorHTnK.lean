/-
  CONTRACTS: text's parser: a line of words. Conditions: utf8's tables as they are laid; sizes.
  PLAIN LAW: text: what a parser keeps from line to line: sizes; where it stands. Conditions: none.
  CONTRACTS: text.Parse. Conditions: the text is shorter than 2^32 - 15 bytes; utf8's tables as they are laid; the variable MaxLen holds a number.
  STATEMENTS of chapter 5: known: its walk. Conditions: utf8's tables as they are laid; the variable MaxLen holds a number.
-/
import Derived.Test.YteebapopeaafhaaDoorHTx6
import Derived.Test.YteebapopeaafhaaDoorHTx2
import Derived.Test.YteebapopeaafhaaDoorHImr
import Derived.Test.YteebapopeaafhaaDoorHLnk2
namespace Go.Proofs.YteebapopeaafhaaDoor
open Go.RowKit Go.Tcn
set_option linter.unusedVariables false
set_option linter.unusedSimpArgs false
/-- What a line leaves. -/
def LineTo (w w' : World) (b : Nat) (O : List Nat) (q : Option PT) (e : Ending) : Prop := e = .returned (.bool q.isSome) ∧ ∃ O', Tch O w w' ∧ NewL w O O' ∧ ∀ p, q = some p → PTx w' b O' p.i p.stage p.fresh
/-- Sizes that a parser's rows keep. -/
def SzI (K : Nat) (i : Img) : Prop := i.fields.length ≤ K ∧ i.imports.length ≤ K ∧ i.methods.length ≤ K ∧ i.exports.length ≤ K ∧ ∀ m ∈ i.methods, m.code.length ≤ K
/-- Where a parser may stand. -/
def InvT (i : Img) (s : Nat) (f : Bool) : Prop := (s = 3 → i.methods ≠ []) ∧ (f = true → s = 3 ∧ i.methods ≠ [])
theorem line_end {w w2 : World} {b : Nat} {O : List Nat} {i : Img} {s : Nat} {f : Bool} {w0 : Wd} {r : List Wd} {e2 : Ending} (h : STx w w2 b O f (subT UU i s f w0 r) e2) (fr : Bool) (hfr : fr = (w0 == kMethod)) (hbO : b ∈ O) :
    ∀ e, e = .returned (.bool (subT UU i s f w0 r).isSome) → LineTo w (w2.setCell ⟨b, 6, none⟩ (.bool fr)) b O (lineT UU ⟨i, s, f⟩ (w0 :: r)) e := by
  intro e he
  obtain ⟨_, hs, O', t, n, hp⟩ := h
  rw [lineT_sub]
  refine ⟨by rw [he]; cases subT UU i s f w0 r <;> rfl, O', t.setCell (.inl hbO) _, n, fun p hq => ?_⟩
  cases hsub : subT UU i s f w0 r with
  | none => rw [hsub] at hq; cases hq
  | some x =>
    rw [hsub] at hq
    simp only [Option.map_some, Option.some.injEq] at hq
    subst hq
    obtain ⟨vf, vi, vm, ve, h1, h2⟩ := (show PTx w2 b O' x.1 x.2 f from hp x.1 x.2 hsub).cells
    have t6 : Tch [b] w2 (w2.setCell ⟨b, 6, none⟩ (.bool fr)) := (Tch.refl [b] w2).setCell (.inl (by simp)) _
    refine ⟨vf, vi, vm, ve, ?_, h2.setb t6⟩
    have := set7 h1 6 (.bool fr)
    rw [this, hfr]
    rfl
set_option maxRecDepth 100000 in
set_option maxHeartbeats 8000000 in
theorem tx_line (w : World) (b : Nat) (O : List Nat) (i : Img) (s : Nat) (f : Bool) (h : PTx w b O i s f) (hinv : InvT i s f) (hsz : SzI 1099511627776 i) (a0 : Option Addr) (c0 : Nat) (w0 : Wd) (r : List Wd) (hw : Src w O (.slice a0 (r.length + 1) c0) (r.length + 1) (strs (w0 :: r))) (hl : r.length + 1 ≤ 1099511627776) (hwl : ∀ wd ∈ w0 :: r, wd.length ≤ 1099511627776) (hV : ValO w O) :
    Calls Tryd.prog 18 #[.pointer (some ⟨b, 0, none⟩), .slice a0 (r.length + 1) c0] w fun e w' => LineTo w w' b O (lineT UU ⟨i, s, f⟩ (w0 :: r)) e := by
  have hbO := h.b
  obtain ⟨ad, rfl, hadl, hadO, hq⟩ := Src.at hw (j := 0) (by simp)
  rw [Addr_add_zero] at hq
  have hq0 : w.cell? ad = some (.string ⟨w0.toArray⟩) := by simpa [strs] using hq
  obtain ⟨hcut, hsrc⟩ := cut_words (ws := w0 :: r) hw (n := 1) (by simp)
  have e1 : (w0 :: r).drop 1 = r := rfl
  have hlw : (w0 :: r).length = r.length + 1 := rfl
  rw [e1] at hsrc
  rw [hlw] at hcut
  have e2 : r.length + 1 - 1 = r.length := rfl
  rw [e2] at hcut
  generalize cutA (some ad) 1 1 c0 = ax at hcut hsrc
  have hcut1 : ∀ w', (Instr.slice 39 (.slice (some ad) (r.length + 1) c0) (some (.int .i64 1)) none none).run Tryd.prog w' = .ok (.slice ax r.length (c0 - 1)) w' := hcut
  clear hcut
  generalize c0 - 1 = c1 at hcut1 hsrc
  have hlr : r.length ≤ 1099511627776 := by omega
  have hwr : ∀ wd ∈ r, wd.length ≤ 1099511627776 := fun wd hx => hwl wd (List.mem_cons_of_mem _ hx)
  obtain ⟨z1, z2, z3, z4, z5⟩ := hsz
  obtain ⟨v1, v2⟩ := hinv
  have HW := Lib.hid hw
  clear hq hw hwl e1 e2
  by_cases k0 : w0 = kApplet
  · subst k0
    have hsub : subT UU i s f kApplet r = appletT UU i s r := by unfold subT; simp [kApplet, kField, kImport, kMethod, kLocals, kExport]
    have hC := tx_applet w b O i s f h ax c1 r hsrc hV.c
    rw [← hsub] at hC
    clear hsub
    go_enter Tryd.func18, Tryd.ntmps18
    go_wp2_with fail
    refine hC.mono ?_
    rintro e w2 hS
    clear hC
    have hS2 := Lib.hid hS
    obtain ⟨rfl, ⟨a0', a1', a2', a3', a4', a5', a6', hsh⟩, _⟩ := hS
    have y6 : w2.cell? ⟨b, 6, none⟩ = some a6' := (cells7 hsh).2.2.2.2.2.2.1
    have yf := (cells7 hsh).2.2.2.2.2.2.2 6
    clear hsh
    generalize hqs : (subT UU i s f kApplet r).isSome = qs at *
    have HQS := Lib.hid hqs
    clear hqs
    go_wp2_with fail
    go_ret
    exact line_end hS2.out _ (by decide) hbO _ (by rw [HQS.out]; rfl)
  by_cases k1 : w0 = kField
  · subst k1
    have hsub : subT UU i s f kField r = fieldT UU i s r := by unfold subT; simp [kApplet, kField, kImport, kMethod, kLocals, kExport]
    have hC := tx_field w b O i s f h z1 ax c1 r hsrc hlr
    rw [← hsub] at hC
    clear hsub
    go_enter Tryd.func18, Tryd.ntmps18
    go_wp2_with fail
    refine hC.mono ?_
    rintro e w2 hS
    clear hC
    have hS2 := Lib.hid hS
    obtain ⟨rfl, ⟨a0', a1', a2', a3', a4', a5', a6', hsh⟩, _⟩ := hS
    have y6 : w2.cell? ⟨b, 6, none⟩ = some a6' := (cells7 hsh).2.2.2.2.2.2.1
    have yf := (cells7 hsh).2.2.2.2.2.2.2 6
    clear hsh
    generalize hqs : (subT UU i s f kField r).isSome = qs at *
    have HQS := Lib.hid hqs
    clear hqs
    go_wp2_with fail
    go_ret
    exact line_end hS2.out _ (by decide) hbO _ (by rw [HQS.out]; rfl)
  by_cases k2 : w0 = kImport
  · subst k2
    have hsub : subT UU i s f kImport r = importT UU i s r := by unfold subT; simp [kApplet, kField, kImport, kMethod, kLocals, kExport]
    have hC := tx_import w b O i s f h z2 ax c1 r hsrc hlr hwr hV
    rw [← hsub] at hC
    clear hsub
    go_enter Tryd.func18, Tryd.ntmps18
    go_wp2_with fail
    refine hC.mono ?_
    rintro e w2 hS
    clear hC
    have hS2 := Lib.hid hS
    obtain ⟨rfl, ⟨a0', a1', a2', a3', a4', a5', a6', hsh⟩, _⟩ := hS
    have y6 : w2.cell? ⟨b, 6, none⟩ = some a6' := (cells7 hsh).2.2.2.2.2.2.1
    have yf := (cells7 hsh).2.2.2.2.2.2.2 6
    clear hsh
    generalize hqs : (subT UU i s f kImport r).isSome = qs at *
    have HQS := Lib.hid hqs
    clear hqs
    go_wp2_with fail
    go_ret
    exact line_end hS2.out _ (by decide) hbO _ (by rw [HQS.out]; rfl)
  by_cases k3 : w0 = kMethod
  · subst k3
    have hsub : subT UU i s f kMethod r = methodT UU i s r := by unfold subT; simp [kApplet, kField, kImport, kMethod, kLocals, kExport]
    have hC := tx_method w b O i s f h z3 ax c1 r hsrc hlr
    rw [← hsub] at hC
    clear hsub
    go_enter Tryd.func18, Tryd.ntmps18
    go_wp2_with fail
    refine hC.mono ?_
    rintro e w2 hS
    clear hC
    have hS2 := Lib.hid hS
    obtain ⟨rfl, ⟨a0', a1', a2', a3', a4', a5', a6', hsh⟩, _⟩ := hS
    have y6 : w2.cell? ⟨b, 6, none⟩ = some a6' := (cells7 hsh).2.2.2.2.2.2.1
    have yf := (cells7 hsh).2.2.2.2.2.2.2 6
    clear hsh
    generalize hqs : (subT UU i s f kMethod r).isSome = qs at *
    have HQS := Lib.hid hqs
    clear hqs
    go_wp2_with fail
    go_ret
    exact line_end hS2.out _ (by decide) hbO _ (by rw [HQS.out]; rfl)
  by_cases k4 : w0 = kLocals
  · subst k4
    have hsub : subT UU i s f kLocals r = localsT UU i s f r := by unfold subT; simp [kApplet, kField, kImport, kMethod, kLocals, kExport]
    have hC := tx_locals w b O i s f h v2 z3 ax c1 r hsrc hlr
    rw [← hsub] at hC
    clear hsub
    go_enter Tryd.func18, Tryd.ntmps18
    go_wp2_with fail
    refine hC.mono ?_
    rintro e w2 hS
    clear hC
    have hS2 := Lib.hid hS
    obtain ⟨rfl, ⟨a0', a1', a2', a3', a4', a5', a6', hsh⟩, _⟩ := hS
    have y6 : w2.cell? ⟨b, 6, none⟩ = some a6' := (cells7 hsh).2.2.2.2.2.2.1
    have yf := (cells7 hsh).2.2.2.2.2.2.2 6
    clear hsh
    generalize hqs : (subT UU i s f kLocals r).isSome = qs at *
    have HQS := Lib.hid hqs
    clear hqs
    go_wp2_with fail
    go_ret
    exact line_end hS2.out _ (by decide) hbO _ (by rw [HQS.out]; rfl)
  by_cases k5 : w0 = kExport
  · subst k5
    have hsub : subT UU i s f kExport r = exportT UU i s r := by unfold subT; simp [kApplet, kField, kImport, kMethod, kLocals, kExport]
    have hC := tx_export w b O i s f h z4 ax c1 r hsrc hwr
    rw [← hsub] at hC
    clear hsub
    go_enter Tryd.func18, Tryd.ntmps18
    go_wp2_with fail
    refine hC.mono ?_
    rintro e w2 hS
    clear hC
    have hS2 := Lib.hid hS
    obtain ⟨rfl, ⟨a0', a1', a2', a3', a4', a5', a6', hsh⟩, _⟩ := hS
    have y6 : w2.cell? ⟨b, 6, none⟩ = some a6' := (cells7 hsh).2.2.2.2.2.2.1
    have yf := (cells7 hsh).2.2.2.2.2.2.2 6
    clear hsh
    generalize hqs : (subT UU i s f kExport r).isSome = qs at *
    have HQS := Lib.hid hqs
    clear hqs
    go_wp2_with fail
    go_ret
    exact line_end hS2.out _ (by decide) hbO _ (by rw [HQS.out]; rfl)
  have hsub : subT UU i s f w0 r = instrT UU i s w0 r := by unfold subT; rw [if_neg k0, if_neg k1, if_neg k2, if_neg k3, if_neg k4, if_neg k5]
  have b0 : (w0 == [97, 112, 112, 108, 101, 116]) = false := beq_eq_false_iff_ne.2 k0
  have b1 : (w0 == [102, 105, 101, 108, 100]) = false := beq_eq_false_iff_ne.2 k1
  have b2 : (w0 == [105, 109, 112, 111, 114, 116]) = false := beq_eq_false_iff_ne.2 k2
  have b3 : (w0 == [109, 101, 116, 104, 111, 100]) = false := beq_eq_false_iff_ne.2 k3
  have b4 : (w0 == [108, 111, 99, 97, 108, 115]) = false := beq_eq_false_iff_ne.2 k4
  have b5 : (w0 == [101, 120, 112, 111, 114, 116]) = false := beq_eq_false_iff_ne.2 k5
  have hfr : (false : Bool) = (w0 == kMethod) := b3.symm
  have HFR := Lib.hid hfr
  clear hfr k0 k1 k2 k3 k4 k5
  have hC := tx_instr w b O i s f h v1 z3 z5 w0 ax c1 r hsrc hlr hwr
  rw [← hsub] at hC
  clear hsub
  go_enter Tryd.func18, Tryd.ntmps18
  go_wp2_with fail
  refine hC.mono ?_
  rintro e w2 hS
  clear hC
  have hS2 := Lib.hid hS
  obtain ⟨rfl, ⟨a0', a1', a2', a3', a4', a5', a6', hsh⟩, _⟩ := hS
  have y6 : w2.cell? ⟨b, 6, none⟩ = some a6' := (cells7 hsh).2.2.2.2.2.2.1
  have yf := (cells7 hsh).2.2.2.2.2.2.2 6
  clear hsh
  generalize hqs : (subT UU i s f w0 r).isSome = qs at *
  have HQS := Lib.hid hqs
  clear hqs
  go_wp2_with fail
  go_ret
  exact line_end hS2.out _ HFR.out hbO _ (by rw [HQS.out]; rfl)
end Go.Proofs.YteebapopeaafhaaDoor
namespace Go.Tcn
open Go.RowKit
set_option linter.unusedVariables false
set_option linter.unusedSimpArgs false
/-- Sizes. -/
def ZT (K : Nat) (i : Img) : Prop := i.fields.length ≤ K ∧ i.imports.length ≤ K ∧ i.methods.length ≤ K ∧ i.exports.length ≤ K ∧ (∀ x ∈ i.imports, x.params.length ≤ 1099511627776) ∧ ∀ m ∈ i.methods, m.params.length ≤ 1099511627776 ∧ m.locals.length ≤ 1099511627776 ∧ m.code.length ≤ K ∧ ∀ x ∈ m.code, I6 x.b
theorem ZT.mono {K K' : Nat} {i : Img} (h : ZT K i) (hk : K ≤ K') : ZT K' i := by
  obtain ⟨h1, h2, h3, h4, h5, h6⟩ := h
  exact ⟨by omega, by omega, by omega, by omega, h5, fun m hm => by
    obtain ⟨a, b, c, d⟩ := h6 m hm
    exact ⟨a, b, by omega, d⟩⟩
theorem ZT.z {K : Nat} {i : Img} (h : ZT K i) (hk : K ≤ 1099511627776) : ImgZ i := by
  obtain ⟨h1, h2, h3, h4, h5, h6⟩ := h
  refine ⟨by omega, by omega, fun x hx => by have := h5 x hx; omega, by omega, fun m hm => ?_, by omega⟩
  obtain ⟨a, b, c, d⟩ := h6 m hm
  exact ⟨by omega, by omega, by omega, d⟩
theorem num_I6 {w : Wd} {n : Int} (h : numW w = some n) : I6 n := by
  have := numW_le w n h
  unfold I6
  omega
theorem ins_I6 {op : Int} {ws : List Wd} {x : Ins} (h : insW UU op ws = some x) : I6 x.b := by
  unfold insW at h
  split at h
  · cases h
  · match ws, h with
    | [], h =>
      simp only [Option.some.injEq] at h
      rw [← h]; exact (⟨by decide, by decide⟩ : I6 0)
    | [a], h =>
      simp only at h
      cases hn : UU.num a with
      | none => rw [hn] at h; cases h
      | some n =>
        rw [hn] at h
        simp only [Option.map_some, Option.some.injEq] at h
        rw [← h]; exact (⟨by decide, by decide⟩ : I6 0)
    | a :: b :: _, h =>
      simp only at h
      cases hn : UU.num a with
      | none => rw [hn] at h; cases h
      | some n =>
        cases hm : UU.num b with
        | none => rw [hn, hm] at h; cases h
        | some y =>
          rw [hn, hm] at h
          simp only [Option.some.injEq] at h
          rw [← h]
          exact num_I6 hm
theorem addLast_mem {ms : List Mth} {f : Mth → Mth} {x : Mth} (h : x ∈ addLast ms f) : x ∈ ms ∨ ∃ m ∈ ms, x = f m := by
  unfold addLast at h
  cases hl : ms.getLast? with
  | none => rw [hl] at h; exact .inl h
  | some m =>
    rw [hl] at h
    simp only at h
    rcases List.mem_append.1 h with h | h
    · exact .inl ((List.dropLast_sublist ms).subset h)
    · simp at h
      exact .inr ⟨m, List.mem_of_getLast? hl, h⟩
theorem addLast_len (ms : List Mth) (f : Mth → Mth) : (addLast ms f).length = ms.length := by
  unfold addLast
  cases hl : ms.getLast? with
  | none => rfl
  | some m =>
    have : ms ≠ [] := by intro e; rw [e] at hl; simp at hl
    have := List.length_pos_iff.2 this
    simp; omega
theorem sub_keeps {i i' : Img} {s s' : Nat} {f : Bool} {w0 : Wd} {r : List Wd} {K : Nat} (h : subT UU i s f w0 r = some (i', s')) (hr : r.length ≤ 1099511627776) (hz : ZT K i) (hv : s = 3 → i.methods ≠ []) :
    ZT (K + 1) i' ∧ (s' = 3 → i'.methods ≠ []) ∧ (w0 = kMethod → s' = 3) := by
  have hz1 := hz.mono (Nat.le_succ K)
  obtain ⟨h1, h2, h3, h4, h5, h6⟩ := hz
  obtain ⟨n21, n31, n32, n41, n42, n43, n51, n52, n53, n54, n61, n62, n63, n64, n65⟩ := kw_ne
  unfold subT at h
  split at h
  · rename_i c
    unfold appletT at h
    split at h
    · cases h
    · match r, h with
      | [n], h =>
        simp only at h
        split at h
        · simp only [Option.some.injEq, Prod.mk.injEq] at h
          obtain ⟨rfl, rfl⟩ := h
          exact ⟨hz1, hv, fun e => absurd (c.symm.trans e) n41.symm⟩
        · cases h
  split at h
  · rename_i c
    unfold fieldT at h
    split at h
    · cases h
    · split at h
      · simp only [Option.some.injEq, Prod.mk.injEq] at h
        obtain ⟨rfl, rfl⟩ := h
        obtain ⟨z1, z2, z3, z4, z5, z6⟩ := hz1
        exact ⟨⟨by simp; omega, z2, z3, z4, z5, z6⟩, fun e => absurd e (by decide), fun e => absurd (c.symm.trans e) n42.symm⟩
      · cases h
  split at h
  · rename_i c
    unfold importT at h
    split at h
    · cases h
    · match r, h with
      | n :: e :: k :: ps, h =>
        simp only at h
        split at h
        · split at h
          · rename_i _ x l hn hk
            simp only [Option.some.injEq, Prod.mk.injEq] at h
            obtain ⟨rfl, rfl⟩ := h
            have hl := kinds_len ps l hk
            obtain ⟨z1, z2, z3, z4, z5, z6⟩ := hz1
            refine ⟨⟨z1, by simp; omega, z3, z4, fun x hx => ?_, z6⟩, fun e => absurd e (by decide), fun e => absurd (c.symm.trans e) n43.symm⟩
            rcases List.mem_append.1 hx with hx | hx
            · exact z5 x hx
            · simp at hx
              rw [hx]
              simp at hr
              simp only; omega
          · cases h
        · cases h
  split at h
  · rename_i c
    unfold methodT at h
    split at h
    · cases h
    · match r, h with
      | k :: ps, h =>
        simp only at h
        split at h
        · split at h
          · rename_i _ l hk
            simp only [Option.some.injEq, Prod.mk.injEq] at h
            obtain ⟨rfl, rfl⟩ := h
            have hl := kinds_len ps l hk
            obtain ⟨z1, z2, z3, z4, z5, z6⟩ := hz1
            refine ⟨⟨z1, z2, by simp; omega, z4, z5, fun m hm => ?_⟩, fun _ => by simp, fun _ => rfl⟩
            rcases List.mem_append.1 hm with hm | hm
            · exact z6 m hm
            · simp at hm
              rw [hm]
              simp at hr
              exact ⟨by simp only; omega, by simp, by simp, by simp⟩
          · cases h
        · cases h
  split at h
  · rename_i c
    unfold localsT at h
    split at h
    · rename_i _ k l hk
      have hl := kinds_len _ _ hk
      split at h
      · simp only [Option.some.injEq, Prod.mk.injEq] at h
        obtain ⟨rfl, rfl⟩ := h
        obtain ⟨z1, z2, z3, z4, z5, z6⟩ := hz1
        refine ⟨⟨z1, z2, by rw [addLast_len]; exact z3, z4, z5, fun m hm => ?_⟩, fun e => by rw [ne_eq, addLast_ne]; exact hv e, fun e => absurd (c.symm.trans e) n54⟩
        rcases addLast_mem hm with hm | ⟨m', hm', rfl⟩
        · exact z6 m hm
        · obtain ⟨a, b, c, d⟩ := z6 m' hm'
          exact ⟨a, by simp only; omega, c, d⟩
      · cases h
    · cases h
  split at h
  · rename_i c
    unfold exportT at h
    split at h
    · cases h
    · match r, h with
      | [e], h =>
        simp only at h
        cases hn : UU.num e with
        | none => rw [hn] at h; cases h
        | some x =>
          rw [hn] at h
          simp only [Option.map_some, Option.some.injEq, Prod.mk.injEq] at h
          obtain ⟨rfl, rfl⟩ := h
          obtain ⟨z1, z2, z3, z4, z5, z6⟩ := hz1
          exact ⟨⟨z1, z2, z3, by simp; omega, z5, z6⟩, fun e => absurd e (by decide), fun e => absurd (c.symm.trans e) n64⟩
  · rename_i c4 c5 c6
    unfold instrT at h
    split at h
    · cases h
    · cases hx : insW UU (UU.op w0) r with
      | none => rw [hx] at h; cases h
      | some x =>
        rw [hx] at h
        simp only [Option.map_some, Option.some.injEq, Prod.mk.injEq] at h
        obtain ⟨rfl, rfl⟩ := h
        have hb := ins_I6 hx
        obtain ⟨z1, z2, z3, z4, z5, z6⟩ := hz1
        refine ⟨⟨z1, z2, by rw [addLast_len]; exact z3, z4, z5, fun m hm => ?_⟩, fun e => by rw [ne_eq, addLast_ne]; exact hv e, fun e => ?_⟩
        · rcases addLast_mem hm with hm | ⟨m', hm', rfl⟩
          · exact z6 m hm
          · obtain ⟨a, b, c, d⟩ := h6 m' hm'
            refine ⟨a, b, by simp; omega, fun y hy => ?_⟩
            rcases List.mem_append.1 hy with hy | hy
            · exact d y hy
            · simp at hy; rw [hy]; exact hb
        · first | exact absurd e ‹¬ w0 = kMethod› | contradiction
theorem spT_wlen : ∀ (f : Nat) (l w : Wd), ∀ x ∈ spT f l w, x.length ≤ w.length + 4 * l.length
  | 0, l, w, x, hx => by
    simp only [spT, flW] at hx
    split at hx
    · cases hx
    · simp at hx; rw [hx]; omega
  | f + 1, l, w, x, hx => by
    rw [spT] at hx
    have hfl : ∀ y ∈ flW w, y.length ≤ w.length := fun y hy => by
      unfold flW at hy
      split at hy
      · cases hy
      · simp at hy; rw [hy]; omega
    split at hx
    · have := hfl x hx; omega
    · rename_i hne
      have hle := Lib.decodeL_le l hne
      have hw := Lib.decodeL_width l
      have he := enc_len ((Lib.decodeL l).1 : Int)
      split at hx
      · have := hfl x hx; omega
      · split at hx
        · rcases List.mem_append.1 hx with hx | hx
          · have := hfl x hx; omega
          · have := spT_wlen f _ _ x hx
            rw [List.length_drop] at this
            simp at this
            omega
        · have := spT_wlen f _ _ x hx
          rw [List.length_drop, List.length_append] at this
          omega
end Go.Tcn
namespace Go.Tcn
open Go.RowKit
set_option linter.unusedVariables false
set_option linter.unusedSimpArgs false
/-- Five cells, each told, none frozen. -/
theorem cells5 {w : World} {b : Nat} {a0 a1 a2 a3 a4 : Value} {T : TypeId} (h : w.heap[b]? = some (.cells #[a0, a1, a2, a3, a4] T (0, 0))) :
    w.cell? ⟨b, 0, none⟩ = some a0 ∧ w.cell? ⟨b, 1, none⟩ = some a1 ∧ w.cell? ⟨b, 2, none⟩ = some a2 ∧ w.cell? ⟨b, 3, none⟩ = some a3 ∧ w.cell? ⟨b, 4, none⟩ = some a4 ∧ w.frozen? ⟨b, 0, none⟩ = false ∧ w.frozen? ⟨b, 1, none⟩ = false ∧ w.frozen? ⟨b, 2, none⟩ = false ∧ w.frozen? ⟨b, 3, none⟩ = false ∧ w.frozen? ⟨b, 4, none⟩ = false := by
  simp [World.cell?, World.frozen?, h]
/-- What a parse hands back: an image's value, a number, an error. -/
def ParseTo (w w' : World) (r : Img × Nat × Int) (e : Ending) : Prop :=
  ∃ vf vi vm ve, e = .returned (.tuple #[.agg #[.string ⟨r.1.name.toArray⟩, vf, vi, vm, ve], .int .i64 r.2.1, .int .i64 r.2.2]) ∧ RInts w' [] vf r.1.fields ∧ RImps w' [] vi r.1.imports ∧ RMths w' [] vm r.1.methods ∧ RInts w' [] ve r.1.exports ∧ ImgZ r.1 ∧ Tch [] w w'
theorem no_img (W : World) : RInts W [] (.slice none 0 0) [] ∧ RImps W [] (.slice none 0 0) [] ∧ RMths W [] (.slice none 0 0) [] ∧ RInts W [] (.slice none 0 0) [] ∧ ImgZ ⟨[], [], [], [], []⟩ :=
  ⟨⟨.inl ⟨rfl, rfl, rfl⟩⟩, ⟨[], rfl, by simp, ⟨.inl ⟨rfl, rfl, rfl⟩⟩, by simp⟩, ⟨[], rfl, by simp, ⟨.inl ⟨rfl, rfl, rfl⟩⟩, by simp⟩, ⟨.inl ⟨rfl, rfl, rfl⟩⟩, by simp [ImgZ]⟩
theorem ParseTo.none {w w' : World} {n : Nat} {e : Ending} {k : Int} (he : e = .returned (.tuple #[.agg #[.string ⟨#[]⟩, .slice none 0 0, .slice none 0 0, .slice none 0 0, .slice none 0 0], .int .i64 n, .int .i64 k])) (t : Tch [] w w') : ParseTo w w' (⟨[], [], [], [], []⟩, n, k) e := by
  obtain ⟨h1, h2, h3, h4, h5⟩ := no_img w'
  exact ⟨_, _, _, _, he, h1, h2, h3, h4, h5, t⟩
theorem linesW_len : ∀ s : Wd, (linesW s).length ≤ s.length
  | [] => by simp [linesW]
  | c :: s => by
    have := linesW_len s
    rw [linesW]
    split
    · simp; omega
    · split <;> rename_i h <;> rw [h] at this <;> simp at this ⊢ <;> omega
theorem linesW_wlen : ∀ (s : Wd), ∀ l ∈ linesW s, l.length ≤ s.length
  | [], l, h => by simp [linesW] at h
  | c :: s, l, h => by
    have ih := linesW_wlen s
    rw [linesW] at h
    split at h
    · rcases List.mem_cons.1 h with h | h
      · rw [h]; simp
      · have := ih l h; simp; omega
    · split at h
      · simp at h; rw [h]; simp
      · rename_i l' ls' he
        rcases List.mem_cons.1 h with h | h
        · have := ih l' (by rw [he]; simp)
          rw [h]; simp; omega
        · have := ih l (by rw [he]; exact List.mem_cons_of_mem _ h)
          simp; omega
/-- A block that holds no number. -/
def NoInt (w : World) (r : Nat) : Prop := ∃ cs T fr, w.heap[r]? = some (.cells cs T fr) ∧ ∀ (j : Nat) n, cs[j]? ≠ some (.int .i64 n)
theorem Src.box {w : World} {L : List Nat} {v : Value} {m : Nat} {news : List Value} {r : Nat} (h : Src w L v m news) (hr : NoInt w r) (hn : news = [] ∨ ∃ (j : Nat) (n : Int), news[j]? = some (.int .i64 n)) : Src w (r :: L) v m news := by
  rcases h.ex with h | ⟨ad, c, h1, h2, h3⟩
  · exact ⟨.inl h⟩
  · refine ⟨.inr ⟨ad, c, h1, h2, fun j u hj => ⟨fun hx => ?_, (h3 j u hj).2⟩⟩⟩
    rcases List.mem_cons.1 hx with hx | hx
    · rcases hn with hn | ⟨j', n, hj'⟩
      · rw [hn] at hj; simp at hj
      · have hc := (h3 j' _ hj').2
        obtain ⟨cs, T, fr, hb, hno⟩ := hr
        unfold World.cell? at hc
        rw [Addr_add_block, hx, hb] at hc
        simp only at hc
        split at hc
        · cases hc
        · exact hno _ n hc
    · exact (h3 j u hj).1 hx
theorem RInts.box {w : World} {L : List Nat} {v : Value} {l : List Int} {r : Nat} (h : RInts w L v l) (hr : NoInt w r) : RInts w (r :: L) v l := by
  refine Src.box h hr ?_
  cases l with
  | nil => exact .inl rfl
  | cons x l => exact .inr ⟨0, x, rfl⟩
theorem RCode.box {w : World} {L : List Nat} {v : Value} {l : List Ins} {r : Nat} (h : RCode w L v l) (hr : NoInt w r) : RCode w (r :: L) v l := by
  refine Src.box h hr ?_
  cases l with
  | nil => exact .inl rfl
  | cons x l => exact .inr ⟨0, x.op, rfl⟩
theorem RMth.box {w : World} {L : List Nat} {cs : List Value} {m : Mth} {r : Nat} (h : RMth w L cs m) (hr : NoInt w r) : RMth w (r :: L) cs m := by
  obtain ⟨vp, vl, vc, hc, h1, h2, h3⟩ := h
  exact ⟨vp, vl, vc, hc, h1.box hr, h2.box hr, h3.box hr⟩
theorem RImp.box {w : World} {L : List Nat} {cs : List Value} {m : Imp} {r : Nat} (h : RImp w L cs m) (hr : NoInt w r) : RImp w (r :: L) cs m := by
  obtain ⟨vp, hc, h1⟩ := h
  exact ⟨vp, hc, h1.box hr⟩
theorem RImps.box {w : World} {L : List Nat} {v : Value} {l : List Imp} {r : Nat} (h : RImps w L v l) (hr : NoInt w r) : RImps w (r :: L) v l := by
  obtain ⟨css, h1, h2, h3, h4⟩ := h.ex
  refine ⟨css, h1, h2, Src.box h3 hr ?_, fun k cs x a b => (h4 k cs x a b).box hr⟩
  match css, l, h1 with
  | [], _, _ => exact .inl rfl
  | c :: css, x :: l, _ =>
    obtain ⟨vp, hc, _⟩ := h4 0 c x rfl rfl
    exact .inr ⟨1, x.exp, by rw [hc]; rfl⟩
theorem RMths.box {w : World} {L : List Nat} {v : Value} {l : List Mth} {r : Nat} (h : RMths w L v l) (hr : NoInt w r) : RMths w (r :: L) v l := by
  obtain ⟨css, h1, h2, h3, h4⟩ := h.ex
  refine ⟨css, h1, h2, Src.box h3 hr ?_, fun k cs x a b => (h4 k cs x a b).box hr⟩
  match css, l, h1 with
  | [], _, _ => exact .inl rfl
  | c :: css, x :: l, _ =>
    obtain ⟨vp, vl, vc, hc, _⟩ := h4 0 c x rfl rfl
    exact .inr ⟨1, x.result, by rw [hc]; rfl⟩
/-- Behind the store of an image into a result's cell it reads as before. -/
theorem ParseTo.some {w w' w'' : World} {i : Img} {r0 : Nat} {vf vi vm ve : Value} {e : Ending} (he : e = .returned (.tuple #[.agg #[.string ⟨i.name.toArray⟩, vf, vi, vm, ve], .int .i64 0, .int .i64 0])) (i1 : RInts w' [] vf i.fields) (i2 : RImps w' [] vi i.imports) (i3 : RMths w' [] vm i.methods) (i4 : RInts w' [] ve i.exports) (hz : ImgZ i) (hr : NoInt w' r0) (t : Tch [r0] w' w'') (tt : Tch [] w w'') : ParseTo w w'' (i, 0, 0) e := by
  refine ⟨_, _, _, _, he, ?_, ?_, ?_, ?_, hz, tt⟩
  · exact ((i1.box hr).tch t (fun _ h _ => h)).thin
  · exact ((i2.box hr).tch t (fun _ h _ => h)).thin
  · exact ((i3.box hr).tch t (fun _ h _ => h)).thin
  · exact ((i4.box hr).tch t (fun _ h _ => h)).thin
end Go.Tcn
namespace Go.Proofs.YteebapopeaafhaaDoor
open Go.RowKit Go.Tcn
set_option linter.unusedVariables false
set_option linter.unusedSimpArgs false
set_option maxRecDepth 100000 in
set_option maxHeartbeats 8000000 in
theorem tx_Parse (w : World) (s : Wd) (hs : s.length < 4294967281) (m : Int) (hm : w.cell? ⟨2, 0, none⟩ = some (.int .i64 m)) (hV : ValC w) :
    Calls Tryd.prog 7 #[.string ⟨s.toArray⟩] w fun e w' => ParseTo w w' (parseX s) e := by
  obtain ⟨V, hVd⟩ : ∃ V, V = w.alloc (.cells #[.string ⟨#[]⟩, .slice none 0 0, .slice none 0 0, .slice none 0 0, .slice none 0 0] 29) := ⟨_, rfl⟩
  have tV : Tch [] w V := by rw [hVd]; exact (Tch.refl [] w).alloc _
  have hR : V.heap[w.heap.size]? = some (.cells #[.string ⟨#[]⟩, .slice none 0 0, .slice none 0 0, .slice none 0 0, .slice none 0 0] 29 (0, 0)) := by rw [hVd]; exact heap_alloc_new _ _
  obtain ⟨r0, hr0⟩ : ∃ r0, r0 = w.heap.size := ⟨_, rfl⟩
  rw [← hr0] at hR
  have hSp := lib_Split V s m hs ((tV.cell (cell_lt hm) (by simp)).trans hm)
  go_enter Tryd.func7, Tryd.ntmps7
  go_upto_region 1 with fail
  rw [← hVd, ← hr0]
  have HR0 := Lib.hid hr0
  clear hVd hr0
  go_wp2_with fail
  refine hSp.mono ?_
  rintro e w1 ⟨rfl, hw1⟩
  have t1 : Tch [] V w1 := by rw [hw1]; exact (Tch.refl [] V).alloc _
  have hsrc : Src w1 [] (.slice (some ⟨V.heap.size, 0, none⟩) (linesG s).length (linesG s).length) (linesG s).length (strs (linesG s)) := by
    have := src_new V w1 [] (strs (linesG s)).toArray 9 (linesG s).length (linesG s).length (fr := (0, 0)) (by rw [hw1]; exact Tch.refl [] _) (by simp)
    simpa using this
  obtain ⟨q0, hq0⟩ : ∃ q0, q0 = V.heap.size := ⟨_, rfl⟩
  rw [← hq0] at hsrc ⊢
  have hqlt : q0 < w1.heap.size := by rw [hw1, hq0]; simp
  have HQ0 := Lib.hid hq0
  clear hw1 hq0 hSp
  have hGW := lines_two s
  have hGlen : (linesG s).length ≤ 4294967282 := by
    have h1 := linesW_len s
    rcases hGW with h | ⟨h, _⟩
    · rw [h]; simp; omega
    · rw [h]; omega
  obtain ⟨g1, hg1⟩ : ∃ g1, (linesG s).length = g1 + 1 := ⟨(linesG s).length - 1, by have := List.length_pos_iff.2 (linesG_ne s); omega⟩
  obtain ⟨lw, hlw⟩ : ∃ lw, (linesG s)[g1]? = some lw := ⟨(linesG s)[g1]'(by omega), List.getElem?_eq_getElem (by omega)⟩
  have hcl : w1.cell? ⟨q0, g1, none⟩ = some (.string ⟨lw.toArray⟩) := by
    rcases hsrc.ex with ⟨h, _⟩ | ⟨ad, c, h1, _, h3⟩
    · simp at h
    · simp only [Value.slice.injEq, Option.some.injEq] at h1
      obtain ⟨rfl, _, _⟩ := h1
      have := (h3 g1 (.string ⟨lw.toArray⟩) (by unfold strs; rw [List.getElem?_map, hlw]; rfl)).2
      have e : (⟨q0, 0, none⟩ : Addr).add g1 = ⟨q0, g1, none⟩ := by unfold Addr.add; split <;> simp_all
      rwa [e] at this
  rw [hg1]
  have hcutH : ∀ w', (Instr.slice 39 (.slice (some ⟨q0, 0, none⟩) (g1 + 1) (g1 + 1)) none (some (.int .i64 (g1 : Int))) none).run Tryd.prog w' = .ok (.slice (some ⟨q0, 0, none⟩) g1 (g1 + 1)) w' := fun w' => run_cut_h 39 9 1 Tryd.underlying39 (by kernel_rfl) (by kernel_rfl) (some ⟨q0, 0, none⟩) (g1 + 1) (g1 + 1) g1 (by omega) w'
  have HS := Lib.hid (And.intro hsrc (And.intro hGW (And.intro hg1 hlw)))
  have hg1' : g1 ≤ 4294967281 := by omega
  clear hsrc hGW hg1 hlw hGlen
  go_upto_region 2 with fail
  go_cut [18] (fun v wz => v = .bool lw.isEmpty ∧ w1 = wz)
  case first =>
    go_wp2_with fail
    go_meet
    exact ⟨by first | rfl | (cases lw <;> rfl), rfl⟩
  case rest =>
   obtain ⟨rfl, rfl⟩ := hcut
   go_upto_if 18 with fail
   go_cut [5] (fun v wz => ∃ cap, v = .slice (some ⟨q0, 0, none⟩) (linesW s).length cap ∧ Src w1 [] v (linesW s).length (strs (linesW s)) ∧ w1 = wz)
   case first =>
    cases lw with
    | nil =>
      have hb : ([] : Wd).isEmpty = true := rfl
      go_wp2_with fail
      go_meet
      obtain ⟨hsrc, hGW, hg1, hlw⟩ := HS.out
      rcases hGW with h | ⟨h1, ls, c, l, h2⟩
      · have hW : (linesW s).length = g1 := by rw [h] at hg1; simp at hg1; exact hg1
        refine ⟨g1 + 1, by rw [hW], ?_, rfl⟩
        have := Src.cut_h (sz := 1) (n := g1) (by rw [hg1] at hsrc; exact hsrc) (by omega)
        rw [h, strs_append] at this
        have e : (strs (linesW s) ++ strs [[]]).take (g1 * 1) = strs (linesW s) := by
          rw [Nat.mul_one, List.take_append_of_le_length (by simp [hW]), List.take_of_length_le (by simp [hW])]
        rw [e] at this
        rw [hW]
        exact this
      · rw [h1, h2] at hlw
        rw [h1, h2] at hg1
        simp at hg1
        rw [List.getElem?_append_right (by omega)] at hlw
        have : g1 - ls.length = 0 := by omega
        rw [this] at hlw
        simp at hlw
    | cons c l =>
      have hb : (c :: l).isEmpty = false := rfl
      go_wp2_with fail
      go_meet
      obtain ⟨hsrc, hGW, hg1, hlw⟩ := HS.out
      rcases hGW with h | ⟨h1, ls, c', l', h2⟩
      · rw [h] at hlw
        rw [h] at hg1
        simp at hg1
        rw [List.getElem?_append_right (by omega), hg1] at hlw
        simp at hlw
      · rw [h1] at hg1 hsrc
        refine ⟨g1 + 1, by rw [hg1], ?_, rfl⟩
        rw [hg1] at hsrc ⊢
        exact hsrc
   case rest =>
    obtain ⟨cap, rfl, hls, rfl⟩ := hcut
    have hWl := linesW_len s
    have hWw := linesW_wlen s
    obtain ⟨W, hWd⟩ : ∃ W, W = w1.alloc (.cells #[.string ⟨#[]⟩, .slice none 0 0, .slice none 0 0, .slice none 0 0, .slice none 0 0, .int .i64 0, .bool false] 43) := ⟨_, rfl⟩
    have tW : Tch [] w1 W := by rw [hWd]; exact (Tch.refl [] w1).alloc _
    obtain ⟨b, hb⟩ : ∃ b, b = w1.heap.size := ⟨_, rfl⟩
    have hP : W.heap[b]? = some (.cells #[.string ⟨#[]⟩, .slice none 0 0, .slice none 0 0, .slice none 0 0, .slice none 0 0, .int .i64 0, .bool false] 43 (0, 0)) := by rw [hWd, hb]; exact heap_alloc_new _ _
    go_upto_region 5 with fail
    rw [← hWd, ← hb]
    have HB := Lib.hid hb
    clear hWd hb
    obtain ⟨O0, hO0, hPx⟩ : ∃ O0 : List Nat, (∀ k ∈ O0, b ≤ k) ∧ PTx W b O0 ⟨[], [], [], [], []⟩ 0 false :=
      ⟨_, fun k hk => by rw [ownL_new (INT := 3) (TI := 57) (TM := 52) (TC := 54) b [] k hk]; exact Nat.le_refl _, _, _, _, _, hP, IO.new W b []⟩
    have hpX : parseX s = match parseL (lineT UU) ((linesW s).map fun l => spT l.length l []) 0 p0T with
      | .error k => (⟨[], [], [], [], []⟩, k, 5)
      | .ok p => if imgB p.i then (p.i, 0, 0) else (⟨[], [], [], [], []⟩, (linesW s).length + 1, 5) := rfl
    obtain ⟨LW, hLW⟩ : ∃ LW, linesW s = LW := ⟨_, rfl⟩
    rw [hLW] at hpX hls hWl hWw ⊢
    clear hLW
    have HPX := Lib.hid hpX
    clear hpX
    have tVw := t1
    have t0 : Tch [] w w1 := tV.then t1
    have hbw : w.heap.size ≤ b := by rw [HB.out]; exact t0.size
    have HT0 := Lib.hid (And.intro t0 (And.intro hbw (And.intro tW (And.intro hO0 hPx))))
    have HTV := Lib.hid tVw
    clear hPx hO0 hP t0 tVw t1
    go_wp2_with fail
    go_loopw [28] (fun x wz => ∃ (k : Nat) (p : PT) (O : List Nat), k ≤ LW.length ∧ x = .int .i64 k ∧ Hid (parseL (lineT UU) (LW.map fun l => spT l.length l []) 0 p0T = parseL (lineT UU) ((LW.drop k).map fun l => spT l.length l []) k p) ∧ PTx wz b O p.i p.stage p.fresh ∧ ZT k p.i ∧ InvT p.i p.stage p.fresh ∧ (∀ i ∈ O, b ≤ i) ∧ Tch [] w1 wz) (fun x _ => LW.length - (intOf x).toNat)
    case atStart => exact ⟨0, p0T, O0, by omega, rfl, Lib.hid rfl, HT0.out.2.2.2.2, by simp [ZT, p0T], by simp [InvT, p0T], HT0.out.2.2.2.1, HT0.out.2.2.1⟩
    case round =>
      obtain ⟨k, p, O, hk1, rfl, hpl, hP, hZ, hI, hO, ht⟩ := hrel
      by_cases hk : k < LW.length
      · obtain ⟨ad, had, hadl, _, hq⟩ := Src.at (hls.tch ht (by simp)) (j := k) (by simpa using hk)
        simp only [Option.some.injEq] at had
        subst had
        have hqk : wr.cell? ⟨q0, k, none⟩ = some (.string ⟨LW[k].toArray⟩) := by
          have e : (⟨q0, 0, none⟩ : Addr).add k = ⟨q0, k, none⟩ := by unfold Addr.add; split <;> simp_all
          rw [e] at hq
          simpa [strs] using hq
        have hlk := hWw _ (List.getElem_mem hk)
        have hdr : LW.drop k = LW[k] :: LW.drop (k + 1) := List.drop_eq_getElem_cons hk
        have hpl1 := hpl.out
        rw [hdr, List.map_cons] at hpl1
        clear hdr hpl hq
        generalize LW[k] = ln at *
        have hsp := tx_split wr ln (by omega)
        have hwl := spT_wlen ln.length ln []
        have hnl := spT_len ln.length ln []
        obtain ⟨ws, hws⟩ : ∃ ws, spT ln.length ln [] = ws := ⟨_, rfl⟩
        rw [hws] at hsp hwl hnl hpl1
        clear hws
        have HL := Lib.hid (And.intro hpl1 (And.intro hP (And.intro hZ (And.intro hI (And.intro hO ht)))))
        clear hpl1 hP hZ hI hO ht
        go_wp2_with fail
        refine hsp.mono ?_
        rintro e w2 ⟨v, rfl, hv, t2⟩
        obtain ⟨av, cv, rfl⟩ := ownsRow_form hv.1
        clear hsp
        obtain rfl | ⟨w0, r, rfl⟩ : ws = [] ∨ ∃ w0 r, ws = w0 :: r := by
          cases ws with
          | nil => exact .inl rfl
          | cons a l => exact .inr ⟨a, l, rfl⟩
        · have HV := Lib.hid (And.intro hv t2)
          clear hv t2
          go_wp2_with fail
          go_roundw
          case rel =>
            obtain ⟨hpl1, hP, hZ, hI, hO, ht⟩ := HL.out
            obtain ⟨hv, t2⟩ := HV.out
            exact ⟨k + 1, p, O, by omega, by go_num, Lib.hid (by rw [hpl1]; rfl), hP.tch0 t2, hZ.mono (Nat.le_succ _), hI, hO, ht.then t2⟩
          case measure => simp [intOf]; omega
        · have hlr : (w0 :: r).length = r.length + 1 := rfl
          rw [hlr] at hv hnl
          have hwl' : ∀ wd ∈ w0 :: r, wd.length ≤ 1099511627776 := fun wd hx => by have := hwl wd hx; simp at this; omega
          clear hwl
          obtain ⟨hpl1, hP, hZ, hI, hO, ht⟩ := HL.out
          have hP2 := hP.tch0 t2
          have hOl : ∀ i ∈ O, i < wr.heap.size := by
            obtain ⟨_, _, _, _, _, hio⟩ := (show PTx wr b O p.i p.stage p.fresh from hP).cells
            exact hio.lt hP.lt
          have hsrcw : Src w2 O (.slice av (r.length + 1) cv) (r.length + 1) (strs (w0 :: r)) := hv.src O hOl
          obtain ⟨z1, z2, z3, z4, z5, z6⟩ := hZ
          have hSz : SzI 1099511627776 p.i := ⟨by omega, by omega, by omega, by omega, fun m hm => by have := (z6 m hm).2.2.1; omega⟩
          have tw2 : Tch [] w w2 := (HT0.out.1.then ht).then t2
          have hVO : ValO w2 O := ValO.of hV tw2 (fun i hi => Nat.le_trans HT0.out.2.1 (hO i hi))
          have hLn := tx_line w2 b O p.i p.stage p.fresh hP2 hI hSz av cv w0 r hsrcw (by omega) hwl' hVO
          have HW2 := Lib.hid (And.intro tw2 (And.intro t2 (And.intro hlk hnl)))
          clear hpl1 hP hI hO ht hP2 hOl hsrcw z1 z2 z3 z4 z5 z6 hSz tw2 hVO hv t2 hlk hnl
          go_wp2_with fail
          refine hLn.mono ?_
          rintro e w3 hL3
          clear hLn
          obtain ⟨q, hq⟩ : ∃ q, lineT UU ⟨p.i, p.stage, p.fresh⟩ (w0 :: r) = q := ⟨_, rfl⟩
          rw [hq] at hL3
          obtain ⟨rfl, O', t3, n3, hp3⟩ := hL3
          cases q with
          | none =>
            have hR3 : w3.heap[r0]? = some (.cells #[.string ⟨#[]⟩, .slice none 0 0, .slice none 0 0, .slice none 0 0, .slice none 0 0] 29 (0, 0)) := by
              obtain ⟨hpl1, hP, hZ, hI, hO, ht⟩ := HL.out
              obtain ⟨tw2, t2, _⟩ := HW2.out
              have hr1 : r0 < w1.heap.size := Nat.lt_of_lt_of_le (heap_lt hR) HTV.out.size
              have h1 := (HTV.out.block r0 (heap_lt hR) (by simp)).trans hR
              have h2 := ((ht.then t2).block r0 hr1 (by simp)).trans h1
              rw [t3.block r0 (heap_lt h2) (fun hx => by have := hO r0 hx; have := HB.out; omega)]
              exact h2
            obtain ⟨y0, y1, y2, y3, y4, g0, g1', g2, g3, g4⟩ := cells5 hR3
            have HX := Lib.hid (And.intro hq (And.intro t3 n3))
            clear hq t3 n3 hp3 hR3
            go_wp2_with fail
            refine bodyPost_ret (v := .tuple #[.agg #[.string ⟨#[]⟩, .slice none 0 0, .slice none 0 0, .slice none 0 0, .slice none 0 0], .int .i64 ((k : Int) + 1), .int .i64 5]) (by simp [results, Tryd.results7, go_sem, y0, y1, y2, y3, y4, g0, g1', g2, g3, g4]) rfl ?_
            obtain ⟨hpl1, hP, hZ, hI, hO, ht⟩ := HL.out
            obtain ⟨hq, t3, n3⟩ := HX.out
            obtain ⟨tw2, _⟩ := HW2.out
            have hres : parseX s = (⟨[], [], [], [], []⟩, k + 1, 5) := by
              rw [HPX.out, hpl1]
              simp only [parseL]
              rw [show lineT UU p (w0 :: r) = none from hq]
            rw [hres]
            have hw0 : w.heap.size ≤ r0 := Nat.le_of_eq HR0.out.symm
            have t4 : Tch [] w w3 := tw2.trans t3 (by simp) (fun i hi hx => by have := hO i hx; have := HT0.out.2.1; omega)
            exact ParseTo.none rfl (((((t4.setCell (.inr hw0) _).setCell (.inr hw0) _).setCell (.inr hw0) _).setCell (.inr hw0) _).setCell (.inr hw0) _)
          | some p' =>
            have HX := Lib.hid (And.intro hq (And.intro t3 (And.intro n3 hp3)))
            clear hq t3 n3 hp3
            go_wp2_with fail
            go_roundw
            case rel =>
              obtain ⟨hpl1, hP, hZ, hI, hO, ht⟩ := HL.out
              obtain ⟨hq, t3, n3, hp3⟩ := HX.out
              obtain ⟨tw2, t2, hlk, hnl⟩ := HW2.out
              have hq2 := hq
              rw [lineT_sub] at hq2
              cases hsub : subT UU p.i p.stage p.fresh w0 r with
              | none => rw [hsub] at hq2; cases hq2
              | some x =>
                obtain ⟨i', s'⟩ := x
                rw [hsub] at hq2
                simp only [Option.map_some, Option.some.injEq] at hq2
                obtain ⟨k1, k2, k3⟩ := sub_keeps hsub (by omega) hZ hI.1
                have hb2 : b ≤ w2.heap.size := by have := ((ht.then t2).size); have := HB.out; omega
                refine ⟨k + 1, p', O', by omega, by go_num, Lib.hid ?_, hp3 p' rfl, ?_, ?_, fun i hi => ?_, (ht.then t2).trans t3 (by simp) (fun i hi hx => by have := hO i hx; have := HB.out; omega)⟩
                · rw [hpl1]
                  simp only [parseL]
                  rw [show lineT UU p (w0 :: r) = some p' from hq]
                · rw [← hq2]; exact k1
                · rw [← hq2]
                  refine ⟨k2, fun hf => ?_⟩
                  have := k3 (by simpa using hf)
                  exact ⟨this, k2 this⟩
                · rcases n3 i hi with h | h
                  · exact hO i h
                  · omega
            case measure => simp [intOf]; omega
      · have hpl1 := hpl.out
        rw [List.drop_eq_nil_of_le (by omega)] at hpl1
        have hres : parseX s = if imgB p.i then (p.i, 0, 0) else (⟨[], [], [], [], []⟩, LW.length + 1, 5) := by
          rw [HPX.out, hpl1]; rfl
        have hzi : ImgZ p.i := hZ.z (by omega)
        obtain ⟨vf, vi, vm, ve, q1, q2⟩ := (show PTx wr b O p.i p.stage p.fresh from hP).cells
        obtain ⟨_, _, _, _, hce, i1, i2, i3, i4⟩ := q2.read
        simp only [List.cons.injEq, and_true] at hce
        obtain ⟨_, rfl, rfl, rfl, rfl⟩ := hce
        obtain ⟨af, cf, rfl⟩ := Src.form i1
        obtain ⟨ai, ci, rfl⟩ := RImps.form i2
        obtain ⟨am, cm, rfl⟩ := RMths.form i3
        obtain ⟨ae, ce, rfl⟩ := Src.form i4
        obtain ⟨d0, d1, d2, d3, d4, d5, d6, hf⟩ := cells7 q1
        have tw : Tch [] w wr := HT0.out.1.then ht
        have hX : ∀ (j : Nat) u, (#[.string ⟨p.i.name.toArray⟩, .slice af p.i.fields.length cf, .slice ai p.i.imports.length ci, .slice am p.i.methods.length cm, .slice ae p.i.exports.length ce] : Array Value).toList[j]? = some u → wr.cell? ((⟨b, 0, none⟩ : Addr).add j) = some u := by
          intro j u hj
          have e : (⟨b, 0, none⟩ : Addr).add j = ⟨b, j, none⟩ := by unfold Addr.add; split <;> simp_all
          rw [e]
          match j, hj with
          | 0, hj => simp at hj; subst hj; exact d0
          | 1, hj => simp at hj; subst hj; exact d1
          | 2, hj => simp at hj; subst hj; exact d2
          | 3, hj => simp at hj; subst hj; exact d3
          | 4, hj => simp at hj; subst hj; exact d4
          | j + 5, hj => simp at hj
        have hRt := im_Right wr p.i _ _ _ _ i1 i2 i3 i4 hzi (fun nm w' h16 t => hV nm w' h16 (tw.then t))
        have hRr : wr.heap[r0]? = some (.cells #[.string ⟨#[]⟩, .slice none 0 0, .slice none 0 0, .slice none 0 0, .slice none 0 0] 29 (0, 0)) :=
          (ht.block r0 (Nat.lt_of_lt_of_le (heap_lt hR) HTV.out.size) (by simp)).trans ((HTV.out.block r0 (heap_lt hR) (by simp)).trans hR)
        have hrb : r0 ≠ b := by
          have h1 := Nat.lt_of_lt_of_le (heap_lt hR) HTV.out.size
          have h2 := HB.out
          omega
        have hw0 : w.heap.size ≤ r0 := Nat.le_of_eq HR0.out.symm
        have HH := Lib.hid (And.intro hres (And.intro hzi (And.intro i1 (And.intro i2 (And.intro i3 (And.intro i4 (And.intro tw (And.intro q2 hRr))))))))
        clear hpl hpl1 hres hzi i1 i2 i3 i4 tw q1 q2 hRr hP hZ hI hO ht d0 d1 d2 d3 d4 d5 d6 hf
        go_wp2_with (first | (refine wpList_load_agg rfl 29 (.tmp 50) rfl ⟨b, 0, none⟩ rfl #[.string ⟨p.i.name.toArray⟩, .slice af p.i.fields.length cf, .slice ai p.i.imports.length ci, .slice am p.i.methods.length cm, .slice ae p.i.exports.length ce] _ hX Tryd.underlying29 rfl (by kernel_rfl) ?_) | fail)
        refine hRt.mono ?_
        rintro e w2 ⟨rfl, t2⟩
        clear hRt
        have hR2 : w2.heap[r0]? = some (.cells #[.string ⟨#[]⟩, .slice none 0 0, .slice none 0 0, .slice none 0 0, .slice none 0 0] 29 (0, 0)) := (t2.block r0 (heap_lt HH.out.2.2.2.2.2.2.2.2) (by simp)).trans HH.out.2.2.2.2.2.2.2.2
        obtain ⟨y0, y1, y2, y3, y4, g0, g1', g2, g3, g4⟩ := cells5 hR2
        have hX2 : ∀ (j : Nat) u, (#[.string ⟨p.i.name.toArray⟩, .slice af p.i.fields.length cf, .slice ai p.i.imports.length ci, .slice am p.i.methods.length cm, .slice ae p.i.exports.length ce] : Array Value).toList[j]? = some u → w2.cell? ((⟨b, 0, none⟩ : Addr).add j) = some u := fun j u hj => by
          have h1 := hX j u hj
          rw [t2.cell (cell_lt h1) (by simp)]; exact h1
        cases hib : imgB p.i
        · have hWc : (LW.length : Int) + 1 ≤ 9223372036854775807 := by omega
          clear hX hX2 hR2
          go_wp2_with fail
          refine bodyPost_ret (v := .tuple #[.agg #[.string ⟨#[]⟩, .slice none 0 0, .slice none 0 0, .slice none 0 0, .slice none 0 0], .int .i64 ((LW.length : Int) + 1), .int .i64 5]) (by simp [results, Tryd.results7, go_sem, y0, y1, y2, y3, y4, g0, g1', g2, g3, g4]) rfl ?_
          obtain ⟨hres, hzi, i1, i2, i3, i4, tw, q2, hRr⟩ := HH.out
          rw [hib] at hres
          rw [hres]
          exact ParseTo.none rfl ((((((tw.then t2).setCell (.inr hw0) _).setCell (.inr hw0) _).setCell (.inr hw0) _).setCell (.inr hw0) _).setCell (.inr hw0) _)
        · have hR2' := hR2
          clear hX hR2
          go_wp2_with (first | (refine wpList_load_agg rfl 29 (.tmp 60) rfl ⟨b, 0, none⟩ rfl #[.string ⟨p.i.name.toArray⟩, .slice af p.i.fields.length cf, .slice ai p.i.imports.length ci, .slice am p.i.methods.length cm, .slice ae p.i.exports.length ce] _ hX2 Tryd.underlying29 rfl (by kernel_rfl) ?_) | fail)
          refine bodyPost_ret (v := .tuple #[.agg #[.string ⟨p.i.name.toArray⟩, .slice af p.i.fields.length cf, .slice ai p.i.imports.length ci, .slice am p.i.methods.length cm, .slice ae p.i.exports.length ce], .int .i64 0, .int .i64 0]) (by simp [results, Tryd.results7, go_sem, y0, y1, y2, y3, y4, g0, g1', g2, g3, g4]) rfl ?_
          obtain ⟨hres, hzi, i1, i2, i3, i4, tw, q2, hRr⟩ := HH.out
          rw [hib] at hres
          rw [hres]
          have hNI : NoInt w2 r0 := ⟨_, _, _, hR2', fun j n hj => by
            match j, hj with
            | 0, hj => simp at hj
            | 1, hj => simp at hj
            | 2, hj => simp at hj
            | 3, hj => simp at hj
            | 4, hj => simp at hj
            | j + 5, hj => simp at hj⟩
          exact ParseTo.some rfl (i1.tch t2 (by simp)) (i2.tch t2 (by simp)) (i3.tch t2 (by simp)) (i4.tch t2 (by simp)) hzi hNI
            ((((((Tch.refl [r0] w2).setCell (.inl (by simp)) _).setCell (.inl (by simp)) _).setCell (.inl (by simp)) _).setCell (.inl (by simp)) _).setCell (.inl (by simp)) _)
            ((((((tw.then t2).setCell (.inr hw0) _).setCell (.inr hw0) _).setCell (.inr hw0) _).setCell (.inr hw0) _).setCell (.inr hw0) _)
end Go.Proofs.YteebapopeaafhaaDoor
namespace Go.Tcn
open Go.RowKit
set_option linter.unusedVariables false
set_option linter.unusedSimpArgs false
def exA : Img := ⟨[97], [], [], [⟨[], 0, [], [⟨1, -5, 0⟩, ⟨4, 0, 0⟩, ⟨39, 0, 0⟩]⟩], []⟩
def exB : Img := ⟨[98, 195, 169, 116, 97], [2], [⟨[97], 1, [1, 4], 0⟩], [⟨[], 0, [3], [⟨39, 0, 0⟩]⟩], [0]⟩
theorem ex_parseA : parseX [97, 112, 112, 108, 101, 116, 32, 97, 10, 109, 101, 116, 104, 111, 100, 32, 110, 111, 110, 101, 10, 32, 112, 117, 115, 104, 32, 45, 53, 32, 35, 32, 102, 105, 118, 101, 10, 32, 112, 111, 112, 10, 114, 101, 116, 10] = (exA, 0, 0) := by kernel_rfl
theorem ex_parseB : parseX [97, 112, 112, 108, 101, 116, 32, 98, 195, 169, 116, 97, 10, 102, 105, 101, 108, 100, 32, 115, 101, 99, 10, 105, 109, 112, 111, 114, 116, 32, 97, 32, 49, 32, 110, 111, 110, 101, 32, 112, 117, 98, 32, 115, 101, 99, 97, 10, 109, 101, 116, 104, 111, 100, 32, 110, 111, 110, 101, 10, 108, 111, 99, 97, 108, 115, 32, 112, 117, 98, 97, 10, 114, 101, 116, 10, 101, 120, 112, 111, 114, 116, 32, 48] = (exB, 0, 0) := by kernel_rfl
theorem ex_parseC : parseX [97, 112, 112, 108, 101, 116, 32, 97, 10, 102, 105, 101, 108, 100, 32, 110, 111, 110, 101, 10] = (⟨[], [], [], [], []⟩, 2, 5) := by kernel_rfl
theorem ex_parseD : parseX [97, 112, 112, 108, 101, 116, 32, 97, 10, 109, 101, 116, 104, 111, 100, 32, 110, 111, 110, 101, 10, 114, 101, 116, 32, 49, 10] = (⟨[], [], [], [], []⟩, 3, 5) := by kernel_rfl
theorem ex_parseE : parseX [97, 112, 112, 108, 101, 116, 32, 97, 10] = (⟨[], [], [], [], []⟩, 2, 5) := by kernel_rfl
theorem ex_parseF : parseX [] = (⟨[], [], [], [], []⟩, 1, 5) := by kernel_rfl
/-- The variable MaxLen holds a number. -/
def MaxC (g : Nat) (w : World) : Prop := ∃ m : Int, w.cell? ⟨g, 0, none⟩ = some (.int .i64 m)
theorem MaxC.tch {g : Nat} {w w' : World} (h : MaxC g w) (t : Tch [] w w') : MaxC g w' := by
  obtain ⟨m, h⟩ := h
  exact ⟨m, by rw [t.cell (cell_lt h) (by simp)]; exact h⟩
/-- One method of three instructions, in memory. -/
theorem mths_open {w : World} {v : Value} {m : Mth} (h : RMths w [] v [m]) (x : Ins) (r : List Ins) (hm : m.code = x :: r) :
    ∃ ad cap ac cc vp vl, v = .slice (some ad) 1 cap ∧ (∀ (j : Nat) u, #[vp, .int .i64 m.result, vl, .slice (some ac) m.code.length cc].toList[j]? = some u → w.cell? (ad.add j) = some u) ∧
      ∀ (j : Nat) u, #[.int .i64 x.op, .int .i64 x.a, .int .i64 x.b].toList[j]? = some u → w.cell? (ac.add j) = some u := by
  obtain ⟨ao, cap, rfl⟩ := RMths.form h
  obtain ⟨ad, cs, rfl, a1, a2, a3, ⟨vp, vl, vc, rfl, _, _, h3⟩, a5⟩ := RL.at h (k := 0) (by simp) (by omega)
  obtain ⟨ac, cc, rfl⟩ := RCode.form h3
  have h4 : RCode w [] (.slice ac m.code.length cc) (x :: r) := hm ▸ h3
  obtain ⟨bd, rfl, b1, b2⟩ := RCode.at h4 (k := 0) (by simp)
  refine ⟨ad, cap, bd, cc, vp, vl, rfl, fun j u hj => ?_, fun j u hj => ?_⟩
  · have := a5 j u hj
    simpa using this
  · have := b2 j u hj
    rw [Addr_add_add] at this
    simpa using this
end Go.Tcn
namespace Go.Proofs.YteebapopeaafhaaDoor
open Go.RowKit Go.Tcn
set_option linter.unusedVariables false
set_option linter.unusedSimpArgs false
set_option maxRecDepth 100000 in
set_option maxHeartbeats 8000000 in
theorem t5_known (w : World) (hm : MaxC 2 w) (hV : ValC w) :
    Calls Tryd.prog 9 #[] w fun e w' => e = .returned (.bool true) ∧ Tch [] w w' := by
  obtain ⟨m, hm⟩ := hm
  have hp := tx_Parse w [97, 112, 112, 108, 101, 116, 32, 97, 10, 109, 101, 116, 104, 111, 100, 32, 110, 111, 110, 101, 10, 32, 112, 117, 115, 104, 32, 45, 53, 32, 35, 32, 102, 105, 118, 101, 10, 32, 112, 111, 112, 10, 114, 101, 116, 10] (by simp) m hm hV
  rw [ex_parseA] at hp
  go_enter Tryd.func9, Tryd.ntmps9
  go_wp2_with fail
  refine hp.mono ?_
  rintro e w1 ⟨vf, vi, vm, ve, rfl, i1, i2, i3, i4, _, t1⟩
  clear hp hm
  obtain ⟨ad, cap, ac, cc, vp, vl, rfl, c1, c2⟩ := mths_open i3 ⟨1, -5, 0⟩ [⟨4, 0, 0⟩, ⟨39, 0, 0⟩] rfl
  obtain ⟨af, cf, rfl⟩ := Src.form i1
  obtain ⟨ai, ci, rfl⟩ := RImps.form i2
  obtain ⟨ae, ce, rfl⟩ := Src.form i4
  have e1 : exA.fields.length = 0 := rfl
  have e2 : exA.imports.length = 0 := rfl
  have e4 : exA.exports.length = 0 := rfl
  have e0 : exA.name = [97] := rfl
  rw [e0, e1, e2, e4]
  obtain ⟨W, hW⟩ : ∃ W, W = w1.alloc (.cells #[.string ⟨#[97]⟩, (.slice af 0 cf), (.slice ai 0 ci), .slice (some ad) 1 cap, (.slice ae 0 ce)] 29) := ⟨_, rfl⟩
  have t2 : Tch [] w1 W := by rw [hW]; exact (Tch.refl [] w1).alloc _
  have hb : W.heap[w1.heap.size]? = some (.cells #[.string ⟨#[97]⟩, (.slice af 0 cf), (.slice ai 0 ci), .slice (some ad) 1 cap, (.slice ae 0 ce)] 29 (0, 0)) := by rw [hW]; exact heap_alloc_new _ _
  obtain ⟨x0, x1, x2, x3, x4, _⟩ := cells5 hb
  have d1 : ∀ (j : Nat) u, #[vp, .int .i64 0, vl, .slice (some ac) 3 cc].toList[j]? = some u → W.cell? (ad.add j) = some u := fun j u hj => by
    have h := c1 j u hj
    rw [t2.cell (cell_lt h) (by simp)]; exact h
  have d2 : ∀ (j : Nat) u, #[.int .i64 1, .int .i64 (-5), .int .i64 0].toList[j]? = some u → W.cell? (ac.add j) = some u := fun j u hj => by
    have h := c2 j u hj
    rw [t2.cell (cell_lt h) (by simp)]; exact h
  clear c1 c2
  have d3 : W.cell? ⟨ad.block, ad.off + 3, none⟩ = some (.slice (some ac) 3 cc) := d1 3 _ rfl
  have c0 : W.cell? ac = some (.int .i64 1) := d2 0 _ rfl
  have c1 : W.cell? ⟨ac.block, ac.off + 1, none⟩ = some (.int .i64 (-5)) := d2 1 _ rfl
  have c2 : W.cell? ⟨ac.block, ac.off + 2, none⟩ = some (.int .i64 0) := d2 2 _ rfl
  have hT := t1.then t2
  clear i1 i2 i3 i4 d1
  go_upto_region 2 with fail
  rw [← hW]
  clear hW hb t1 t2 hV
  go_wp2_with (first | (refine wpList_load_agg rfl 54 (.tmp 36) rfl ac rfl #[.int .i64 1, .int .i64 (-5), .int .i64 0] _ d2 Tryd.underlying54 rfl (by kernel_rfl) ?_) | fail)
  go_ret
  exact ⟨rfl, hT⟩
end Go.Proofs.YteebapopeaafhaaDoor
