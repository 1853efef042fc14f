/-
  CONTRACTS: text's parser: a line of words. Conditions: utf8's tables as they are laid; sizes.
-/
import Derived.Test.YteebapopeaafhaaDoorHTx6
namespace Go.Proofs.YteebapopeaafhaaDoor
open Go.RowKit Go.Tcn
set_option linter.unusedVariables false
set_option linter.unusedSimpArgs false
/-- What a line leaves. -/
def LineTo (w w' : World) (b : Nat) (O : List Nat) (q : Option PT) (e : Ending) : Prop := e = .returned (.bool q.isSome) ∧ ∃ O', Tch O w w' ∧ NewL w O O' ∧ ∀ p, q = some p → PTx w' b O' p.i p.stage p.fresh
/-- Sizes that a parser's rows keep. -/
def SzI (K : Nat) (i : Img) : Prop := i.fields.length ≤ K ∧ i.imports.length ≤ K ∧ i.methods.length ≤ K ∧ i.exports.length ≤ K ∧ ∀ m ∈ i.methods, m.code.length ≤ K
/-- Where a parser may stand. -/
def InvT (i : Img) (s : Nat) (f : Bool) : Prop := (s = 3 → i.methods ≠ []) ∧ (f = true → s = 3 ∧ i.methods ≠ [])
theorem line_end {w w2 : World} {b : Nat} {O : List Nat} {i : Img} {s : Nat} {f : Bool} {w0 : Wd} {r : List Wd} {e2 : Ending} (h : STx w w2 b O f (subT UU i s f w0 r) e2) (fr : Bool) (hfr : fr = (w0 == kMethod)) (hbO : b ∈ O) :
    ∀ e, e = .returned (.bool (subT UU i s f w0 r).isSome) → LineTo w (w2.setCell ⟨b, 6, none⟩ (.bool fr)) b O (lineT UU ⟨i, s, f⟩ (w0 :: r)) e := by
  intro e he
  obtain ⟨_, hs, O', t, n, hp⟩ := h
  rw [lineT_sub]
  refine ⟨by rw [he]; cases subT UU i s f w0 r <;> rfl, O', t.setCell (.inl hbO) _, n, fun p hq => ?_⟩
  cases hsub : subT UU i s f w0 r with
  | none => rw [hsub] at hq; cases hq
  | some x =>
    rw [hsub] at hq
    simp only [Option.map_some, Option.some.injEq] at hq
    subst hq
    obtain ⟨vf, vi, vm, ve, h1, h2⟩ := (show PTx w2 b O' x.1 x.2 f from hp x.1 x.2 hsub).cells
    have t6 : Tch [b] w2 (w2.setCell ⟨b, 6, none⟩ (.bool fr)) := (Tch.refl [b] w2).setCell (.inl (by simp)) _
    refine ⟨vf, vi, vm, ve, ?_, h2.setb t6⟩
    have := set7 h1 6 (.bool fr)
    rw [this, hfr]
    rfl
set_option maxRecDepth 100000 in
set_option maxHeartbeats 8000000 in
theorem tx_line (w : World) (b : Nat) (O : List Nat) (i : Img) (s : Nat) (f : Bool) (h : PTx w b O i s f) (hinv : InvT i s f) (hsz : SzI 1099511627776 i) (a0 : Option Addr) (c0 : Nat) (w0 : Wd) (r : List Wd) (hw : Src w O (.slice a0 (r.length + 1) c0) (r.length + 1) (strs (w0 :: r))) (hl : r.length + 1 ≤ 1099511627776) (hwl : ∀ wd ∈ w0 :: r, wd.length ≤ 1099511627776) (hV : ValO w O) :
    Calls Tryd.prog 18 #[.pointer (some ⟨b, 0, none⟩), .slice a0 (r.length + 1) c0] w fun e w' => LineTo w w' b O (lineT UU ⟨i, s, f⟩ (w0 :: r)) e := by
  have hbO := h.b
  obtain ⟨ad, rfl, hadl, hadO, hq⟩ := Src.at hw (j := 0) (by simp)
  rw [Addr_add_zero] at hq
  have hq0 : w.cell? ad = some (.string ⟨w0.toArray⟩) := by simpa [strs] using hq
  obtain ⟨hcut, hsrc⟩ := cut_words (ws := w0 :: r) hw (n := 1) (by simp)
  have e1 : (w0 :: r).drop 1 = r := rfl
  have hlw : (w0 :: r).length = r.length + 1 := rfl
  rw [e1] at hsrc
  rw [hlw] at hcut
  have e2 : r.length + 1 - 1 = r.length := rfl
  rw [e2] at hcut
  generalize cutA (some ad) 1 1 c0 = ax at hcut hsrc
  have hcut1 : ∀ w', (Instr.slice 39 (.slice (some ad) (r.length + 1) c0) (some (.int .i64 1)) none none).run Tryd.prog w' = .ok (.slice ax r.length (c0 - 1)) w' := hcut
  clear hcut
  generalize c0 - 1 = c1 at hcut1 hsrc
  have hlr : r.length ≤ 1099511627776 := by omega
  have hwr : ∀ wd ∈ r, wd.length ≤ 1099511627776 := fun wd hx => hwl wd (List.mem_cons_of_mem _ hx)
  obtain ⟨z1, z2, z3, z4, z5⟩ := hsz
  obtain ⟨v1, v2⟩ := hinv
  have HW := Lib.hid hw
  clear hq hw hwl e1 e2
  by_cases k0 : w0 = kApplet
  · subst k0
    have hsub : subT UU i s f kApplet r = appletT UU i s r := by unfold subT; simp [kApplet, kField, kImport, kMethod, kLocals, kExport]
    have hC := tx_applet w b O i s f h ax c1 r hsrc hV.c
    rw [← hsub] at hC
    clear hsub
    go_enter Tryd.func18, Tryd.ntmps18
    go_wp2_with fail
    refine hC.mono ?_
    rintro e w2 hS
    clear hC
    have hS2 := Lib.hid hS
    obtain ⟨rfl, ⟨a0', a1', a2', a3', a4', a5', a6', hsh⟩, _⟩ := hS
    have y6 : w2.cell? ⟨b, 6, none⟩ = some a6' := (cells7 hsh).2.2.2.2.2.2.1
    have yf := (cells7 hsh).2.2.2.2.2.2.2 6
    clear hsh
    generalize hqs : (subT UU i s f kApplet r).isSome = qs at *
    have HQS := Lib.hid hqs
    clear hqs
    go_wp2_with fail
    go_ret
    exact line_end hS2.out _ (by decide) hbO _ (by rw [HQS.out]; rfl)
  by_cases k1 : w0 = kField
  · subst k1
    have hsub : subT UU i s f kField r = fieldT UU i s r := by unfold subT; simp [kApplet, kField, kImport, kMethod, kLocals, kExport]
    have hC := tx_field w b O i s f h z1 ax c1 r hsrc hlr
    rw [← hsub] at hC
    clear hsub
    go_enter Tryd.func18, Tryd.ntmps18
    go_wp2_with fail
    refine hC.mono ?_
    rintro e w2 hS
    clear hC
    have hS2 := Lib.hid hS
    obtain ⟨rfl, ⟨a0', a1', a2', a3', a4', a5', a6', hsh⟩, _⟩ := hS
    have y6 : w2.cell? ⟨b, 6, none⟩ = some a6' := (cells7 hsh).2.2.2.2.2.2.1
    have yf := (cells7 hsh).2.2.2.2.2.2.2 6
    clear hsh
    generalize hqs : (subT UU i s f kField r).isSome = qs at *
    have HQS := Lib.hid hqs
    clear hqs
    go_wp2_with fail
    go_ret
    exact line_end hS2.out _ (by decide) hbO _ (by rw [HQS.out]; rfl)
  by_cases k2 : w0 = kImport
  · subst k2
    have hsub : subT UU i s f kImport r = importT UU i s r := by unfold subT; simp [kApplet, kField, kImport, kMethod, kLocals, kExport]
    have hC := tx_import w b O i s f h z2 ax c1 r hsrc hlr hwr hV
    rw [← hsub] at hC
    clear hsub
    go_enter Tryd.func18, Tryd.ntmps18
    go_wp2_with fail
    refine hC.mono ?_
    rintro e w2 hS
    clear hC
    have hS2 := Lib.hid hS
    obtain ⟨rfl, ⟨a0', a1', a2', a3', a4', a5', a6', hsh⟩, _⟩ := hS
    have y6 : w2.cell? ⟨b, 6, none⟩ = some a6' := (cells7 hsh).2.2.2.2.2.2.1
    have yf := (cells7 hsh).2.2.2.2.2.2.2 6
    clear hsh
    generalize hqs : (subT UU i s f kImport r).isSome = qs at *
    have HQS := Lib.hid hqs
    clear hqs
    go_wp2_with fail
    go_ret
    exact line_end hS2.out _ (by decide) hbO _ (by rw [HQS.out]; rfl)
  by_cases k3 : w0 = kMethod
  · subst k3
    have hsub : subT UU i s f kMethod r = methodT UU i s r := by unfold subT; simp [kApplet, kField, kImport, kMethod, kLocals, kExport]
    have hC := tx_method w b O i s f h z3 ax c1 r hsrc hlr
    rw [← hsub] at hC
    clear hsub
    go_enter Tryd.func18, Tryd.ntmps18
    go_wp2_with fail
    refine hC.mono ?_
    rintro e w2 hS
    clear hC
    have hS2 := Lib.hid hS
    obtain ⟨rfl, ⟨a0', a1', a2', a3', a4', a5', a6', hsh⟩, _⟩ := hS
    have y6 : w2.cell? ⟨b, 6, none⟩ = some a6' := (cells7 hsh).2.2.2.2.2.2.1
    have yf := (cells7 hsh).2.2.2.2.2.2.2 6
    clear hsh
    generalize hqs : (subT UU i s f kMethod r).isSome = qs at *
    have HQS := Lib.hid hqs
    clear hqs
    go_wp2_with fail
    go_ret
    exact line_end hS2.out _ (by decide) hbO _ (by rw [HQS.out]; rfl)
  by_cases k4 : w0 = kLocals
  · subst k4
    have hsub : subT UU i s f kLocals r = localsT UU i s f r := by unfold subT; simp [kApplet, kField, kImport, kMethod, kLocals, kExport]
    have hC := tx_locals w b O i s f h v2 z3 ax c1 r hsrc hlr
    rw [← hsub] at hC
    clear hsub
    go_enter Tryd.func18, Tryd.ntmps18
    go_wp2_with fail
    refine hC.mono ?_
    rintro e w2 hS
    clear hC
    have hS2 := Lib.hid hS
    obtain ⟨rfl, ⟨a0', a1', a2', a3', a4', a5', a6', hsh⟩, _⟩ := hS
    have y6 : w2.cell? ⟨b, 6, none⟩ = some a6' := (cells7 hsh).2.2.2.2.2.2.1
    have yf := (cells7 hsh).2.2.2.2.2.2.2 6
    clear hsh
    generalize hqs : (subT UU i s f kLocals r).isSome = qs at *
    have HQS := Lib.hid hqs
    clear hqs
    go_wp2_with fail
    go_ret
    exact line_end hS2.out _ (by decide) hbO _ (by rw [HQS.out]; rfl)
  by_cases k5 : w0 = kExport
  · subst k5
    have hsub : subT UU i s f kExport r = exportT UU i s r := by unfold subT; simp [kApplet, kField, kImport, kMethod, kLocals, kExport]
    have hC := tx_export w b O i s f h z4 ax c1 r hsrc hwr
    rw [← hsub] at hC
    clear hsub
    go_enter Tryd.func18, Tryd.ntmps18
    go_wp2_with fail
    refine hC.mono ?_
    rintro e w2 hS
    clear hC
    have hS2 := Lib.hid hS
    obtain ⟨rfl, ⟨a0', a1', a2', a3', a4', a5', a6', hsh⟩, _⟩ := hS
    have y6 : w2.cell? ⟨b, 6, none⟩ = some a6' := (cells7 hsh).2.2.2.2.2.2.1
    have yf := (cells7 hsh).2.2.2.2.2.2.2 6
    clear hsh
    generalize hqs : (subT UU i s f kExport r).isSome = qs at *
    have HQS := Lib.hid hqs
    clear hqs
    go_wp2_with fail
    go_ret
    exact line_end hS2.out _ (by decide) hbO _ (by rw [HQS.out]; rfl)
  have hsub : subT UU i s f w0 r = instrT UU i s w0 r := by unfold subT; rw [if_neg k0, if_neg k1, if_neg k2, if_neg k3, if_neg k4, if_neg k5]
  have b0 : (w0 == [97, 112, 112, 108, 101, 116]) = false := beq_eq_false_iff_ne.2 k0
  have b1 : (w0 == [102, 105, 101, 108, 100]) = false := beq_eq_false_iff_ne.2 k1
  have b2 : (w0 == [105, 109, 112, 111, 114, 116]) = false := beq_eq_false_iff_ne.2 k2
  have b3 : (w0 == [109, 101, 116, 104, 111, 100]) = false := beq_eq_false_iff_ne.2 k3
  have b4 : (w0 == [108, 111, 99, 97, 108, 115]) = false := beq_eq_false_iff_ne.2 k4
  have b5 : (w0 == [101, 120, 112, 111, 114, 116]) = false := beq_eq_false_iff_ne.2 k5
  have hfr : (false : Bool) = (w0 == kMethod) := b3.symm
  have HFR := Lib.hid hfr
  clear hfr k0 k1 k2 k3 k4 k5
  have hC := tx_instr w b O i s f h v1 z3 z5 w0 ax c1 r hsrc hlr hwr
  rw [← hsub] at hC
  clear hsub
  go_enter Tryd.func18, Tryd.ntmps18
  go_wp2_with fail
  refine hC.mono ?_
  rintro e w2 hS
  clear hC
  have hS2 := Lib.hid hS
  obtain ⟨rfl, ⟨a0', a1', a2', a3', a4', a5', a6', hsh⟩, _⟩ := hS
  have y6 : w2.cell? ⟨b, 6, none⟩ = some a6' := (cells7 hsh).2.2.2.2.2.2.1
  have yf := (cells7 hsh).2.2.2.2.2.2.2 6
  clear hsh
  generalize hqs : (subT UU i s f w0 r).isSome = qs at *
  have HQS := Lib.hid hqs
  clear hqs
  go_wp2_with fail
  go_ret
  exact line_end hS2.out _ HFR.out hbO _ (by rw [HQS.out]; rfl)
end Go.Proofs.YteebapopeaafhaaDoor
