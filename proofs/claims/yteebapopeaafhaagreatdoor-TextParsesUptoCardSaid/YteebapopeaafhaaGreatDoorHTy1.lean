/-
  HELPERS: the document's parser of lines, in memory. Conditions: none.
  CONTRACTS: the document's parser: a line: applet, field, export, locals. Conditions: utf8's tables as they are laid; sizes.
-/
import Derived.Test.YteebapopeaafhaaGreatDoorHTnK
import Derived.Test.YteebapopeaafhaaGreatDoorHCode5
import Derived.Test.YteebapopeaafhaaGreatDoorHTnD
import Derived.Deep.QuietTactic
import Derived.BigQuiet
namespace Go.Tcn
open Go.RowKit
set_option linter.unusedVariables false
set_option linter.unusedSimpArgs false
theorem cells6 {w : World} {b : Nat} {a0 a1 a2 a3 a4 a5 : Value} {T : TypeId} (h : w.heap[b]? = some (.cells #[a0, a1, a2, a3, a4, a5] T (0, 0))) :
    w.cell? ⟨b, 0, none⟩ = some a0 ∧ w.cell? ⟨b, 1, none⟩ = some a1 ∧ w.cell? ⟨b, 2, none⟩ = some a2 ∧ w.cell? ⟨b, 3, none⟩ = some a3 ∧ w.cell? ⟨b, 4, none⟩ = some a4 ∧ w.cell? ⟨b, 5, none⟩ = some a5 ∧ ∀ j, w.frozen? ⟨b, j, none⟩ = false := by
  simp [World.cell?, World.frozen?, h]
section
variable (INT TI TM TC T : TypeId)
/-- The document's parser at block b. -/
def PR1 (w : World) (b : Nat) (O : List Nat) (i : Img) (a : Nat) : Prop :=
  ∃ vf vi vm ve, w.heap[b]? = some (.cells #[.string ⟨i.name.toArray⟩, vf, vi, vm, ve, .int .i64 a] T (0, 0)) ∧ IO INT TI TM TC w b O vf vi vm ve i
variable {INT TI TM TC T : TypeId}
theorem PR1.lt {w : World} {b : Nat} {O : List Nat} {i : Img} {a : Nat} (h : PR1 INT TI TM TC T w b O i a) : b < w.heap.size := by
  obtain ⟨vf, vi, vm, ve, h1, _⟩ := h
  exact heap_lt h1
theorem PR1.b {w : World} {b : Nat} {O : List Nat} {i : Img} {a : Nat} (h : PR1 INT TI TM TC T w b O i a) : b ∈ O := by
  obtain ⟨vf, vi, vm, ve, _, h1⟩ := h
  exact h1.b
theorem PR1.ol {w : World} {b : Nat} {O : List Nat} {i : Img} {a : Nat} (h : PR1 INT TI TM TC T w b O i a) : ∀ k ∈ O, k < w.heap.size := by
  have hb := h.lt
  obtain ⟨vf, vi, vm, ve, _, h1⟩ := h
  exact h1.lt hb
theorem PR1.tch0 {w w' : World} {b : Nat} {O : List Nat} {i : Img} {a : Nat} (h : PR1 INT TI TM TC T w b O i a) (t : Tch [] w w') : PR1 INT TI TM TC T w' b O i a := by
  obtain ⟨vf, vi, vm, ve, h1, h2⟩ := h
  exact ⟨vf, vi, vm, ve, by rw [t.block b (heap_lt h1) (by simp)]; exact h1, h2.tch0 t⟩
/-- Behind a row's growth the parser's two cells are stored. -/
theorem PR1.put {w w' : World} {b : Nat} {O : List Nat} {nm at0 : Value} {vf vi vm ve vf' vi' vm' ve' : Value} {i' : Img} (h : w.heap[b]? = some (.cells #[nm, vf, vi, vm, ve, at0] T (0, 0))) (ha : Aft (INT := INT) (TI := TI) (TM := TM) (TC := TC) w w' b O vf' vi' vm' ve' i') (hb : w'.heap[b]? = w.heap[b]?) (hbO : b ∈ O) (j : Nat) (x : Value) (a : Nat)
    (hc : ((#[nm, vf, vi, vm, ve, at0] : Array Value).setIfInBounds j x).setIfInBounds 5 (.int .i64 a) = #[.string ⟨i'.name.toArray⟩, vf', vi', vm', ve', .int .i64 a]) : ∃ O', PR1 INT TI TM TC T ((w'.setCell ⟨b, j, none⟩ x).setCell ⟨b, 5, none⟩ (.int .i64 a)) b O' i' a ∧ Tch O w ((w'.setCell ⟨b, j, none⟩ x).setCell ⟨b, 5, none⟩ (.int .i64 a)) ∧ NewL w O O' := by
  obtain ⟨O', h1, h2, h3⟩ := ha
  have t : Tch [b] w' ((w'.setCell ⟨b, j, none⟩ x).setCell ⟨b, 5, none⟩ (.int .i64 a)) := ((Tch.refl [b] w').setCell (.inl (by simp)) _).setCell (.inl (by simp)) _
  refine ⟨O', ⟨vf', vi', vm', ve', ?_, h1.setb t⟩, h2.trans t (fun _ _ h => h) (fun k _ hk => by simp at hk; subst hk; exact hbO), h3⟩
  rw [← hc]
  exact set7 (set7 (hb.trans h) j x) 5 _
end
end Go.Tcn
namespace Go.Proofs.YteebapopeaafhaaGreatDoor
open Go.RowKit Go.Tcn
set_option linter.unusedVariables false
set_option linter.unusedSimpArgs false
/-- The document's parser at this seat. -/
def PRx (w : World) (b : Nat) (O : List Nat) (i : Img) (a : Nat) : Prop := PR1 3 51 55 57 70 w b O i a
theorem PRx.cells {w : World} {b : Nat} {O : List Nat} {i : Img} {a : Nat} (h : PRx w b O i a) : ∃ vf vi vm ve, w.heap[b]? = some (.cells #[.string ⟨i.name.toArray⟩, vf, vi, vm, ve, .int .i64 a] 70 (0, 0)) ∧ Tcn.IO 3 51 55 57 w b O vf vi vm ve i := h
/-- What a line leaves. -/
def RLTo (w w' : World) (b : Nat) (O : List Nat) (q : Option PR) (e : Ending) : Prop := e = .returned (.bool q.isSome) ∧ ∃ O', Tch O w w' ∧ NewL w O O' ∧ ∀ p, q = some p → PRx w' b O' p.i p.at'
theorem RLTo.no {w w' : World} {b : Nat} {O : List Nat} {e : Ending} (he : e = .returned (.bool false)) (t : Tch O w w') : RLTo w w' b O none e := ⟨he, O, t, NewL.refl _ _, fun _ h => by cases h⟩
theorem RLTo.yes {w w1 w' : World} {b : Nat} {O O' : List Nat} {e : Ending} {i : Img} {a : Nat} (he : e = .returned (.bool true)) (t1 : Tch O w w1) (h : PRx w' b O' i a) (t : Tch O w1 w') (n : NewL w1 O O') : RLTo w w' b O (some ⟨i, a⟩) e :=
  ⟨he, O', t1.trans t (fun _ _ h => h) (fun _ _ h => h), fun k hk => (n k hk).imp id (fun h => Nat.le_trans t1.size h), fun _ h' => by cases h'; exact h⟩
/-- A line's words: the first; those behind it. -/
theorem words_at {w : World} {O : List Nat} {ad : Addr} {n c0 : Nat} {ws : List Wd} (h : Src w O (.slice (some ad) n c0) ws.length (strs ws)) {j : Nat} (hj : j < ws.length) (hj0 : j ≠ 0) : w.cell? ⟨ad.block, ad.off + j, none⟩ = some (.string ⟨(ws[j]).toArray⟩) := by
  obtain ⟨ao, cap, hf⟩ := h.form
  simp only [Value.slice.injEq] at hf
  obtain ⟨_, rfl, _⟩ := hf
  obtain ⟨ad', e, _, _, hq⟩ := Src.at h (j := j) (by simpa using hj)
  simp only [Option.some.injEq] at e
  subst e
  have ha : ad.add j = ⟨ad.block, ad.off + j, none⟩ := by simp [Addr.add, hj0]
  rw [ha] at hq
  simpa [strs] using hq
end Go.Proofs.YteebapopeaafhaaGreatDoor
namespace Go.Proofs.YteebapopeaafhaaGreatDoor
open Go.RowKit Go.Tcn
set_option linter.unusedVariables false
set_option linter.unusedSimpArgs false
set_option maxRecDepth 100000 in
set_option maxHeartbeats 8000000 in
theorem rl_applet (w : World) (b : Nat) (O : List Nat) (i : Img) (a : Nat) (h : PRx w b O i a) (ha : a = 0) (a0 : Option Addr) (c0 : Nat) (w0 : Wd) (r : List Wd) (hw : Src w O (.slice a0 (r.length + 1) c0) (r.length + 1) (strs (w0 :: r))) (hl : r.length + 1 ≤ 1099511627776) (hwl : ∀ wd ∈ r, wd.length ≤ 1099511627776) (hV : ValO w O) :
    Calls Tryz.prog 33 #[.pointer (some ⟨b, 0, none⟩), .slice a0 (r.length + 1) c0] w fun e w' => RLTo w w' b O (lineR UU ⟨i, a⟩ (w0 :: r)) e := by
  have hbO := h.b
  have hOl := h.ol
  obtain ⟨ad, rfl, hadl0, hadO, hq⟩ := Src.at hw (j := 0) (by simp)
  rw [Addr_add_zero] at hq
  have hq00 : w.cell? ad = some (.string ⟨(w0 : Wd).toArray⟩) := by simpa [strs] using hq
  clear hq
  subst ha
  go_enter Tryz.func33, Tryz.ntmps33
  go_wp2_with fail
  refine (ref_Op w0 w).mono ?_
  rintro e w1 ⟨rfl, t1⟩
  have hadl := Nat.lt_of_lt_of_le hadl0 t1.size
  have hq0 := (t1.cell (p := ad) hadl0 (by simp)).trans hq00
  have hw1 := hw.tch t1 (by simp)
  have tO : Tch O w w1 := t1.nil
  have h1 := h.tch0 t1
  obtain ⟨vf, vi, vm, ve, q1, q2⟩ := (show PRx w1 b O i _ from h1).cells
  obtain ⟨d0, d1, d2, d3, d4, d5, hf⟩ := cells6 q1
  have hb1 := heap_lt q1
  obtain ⟨op, hop⟩ : ∃ op, op = opAt w0 := ⟨_, rfl⟩
  rw [← hop]
  have HOP := Lib.hid hop
  clear hop hq00 hw
  by_cases hk : w0 = kApplet
  · have hkb : (w0 == [97, 112, 112, 108, 101, 116]) = true := by rw [hk]; decide
    have HK := Lib.hid hk
    clear hk
    by_cases hl1 : r.length = 1
    · obtain ⟨n, rfl⟩ : ∃ n, r = [n] := by
        match r, hl1 with
        | [n], _ => exact ⟨n, rfl⟩
      have hn1 := words_at (ws := [w0, n]) hw1 (j := 1) (by simp) (by omega)
      have hn2 : w1.cell? ⟨ad.block, ad.off + 1, none⟩ = some (.string ⟨n.toArray⟩) := hn1
      have hlr : ([n] : List Wd).length = 1 := rfl
      have hIs := im_IsName w1 n (fun h16 w' t => hV n w' h16 (tO.trans t (fun _ _ h => h) (by simp)))
      have hIs2 := ref_IsName w1 n (fun h16 w' t => hV n w' h16 (tO.trans t (fun _ _ h => h) (by simp)))
      have HH := Lib.hid (And.intro q1 (And.intro q2 tO))
      clear hIs hn1 hw1 h1 h q1 q2 hl1 hl tO t1 hwl hV
      go_wp2_with fail
      refine hIs2.mono ?_
      rintro e w2 ⟨rfl, t2⟩
      clear hIs2
      have z1 := (t2.cell (p := ⟨ad.block, ad.off + 1, none⟩) hadl (by simp)).trans hn2
      have z0 := (t2.cell (p := ⟨b, 0, none⟩) hb1 (by simp)).trans d0
      have z5 := (t2.cell (p := ⟨b, 5, none⟩) hb1 (by simp)).trans d5
      have zf : ∀ j, w2.frozen? ⟨b, j, none⟩ = false := fun j => (t2.frozen (p := ⟨b, j, none⟩) hb1 (by simp)).trans (hf j)
      cases hnm : nameB n
      · have hq : lineR UU ⟨i, 0⟩ (w0 :: [n]) = none := by
          unfold lineR
          simp only [if_true]
          rw [if_neg (fun h => by have h1 : nameB n = true := h.2; rw [hnm] at h1; cases h1)]
        have HQ := Lib.hid hq
        clear hq
        go_wp2_with fail
        go_ret
        rw [HQ.out]
        exact RLTo.no rfl (HH.out.2.2.trans t2 (fun _ _ h => h) (by simp))
      · have hq : lineR UU ⟨i, 0⟩ (w0 :: [n]) = some ⟨{ i with name := n }, 1⟩ := by
          unfold lineR
          simp only [if_true]
          rw [if_pos ⟨HK.out, hnm⟩]
        have HQ := Lib.hid hq
        clear hq
        go_wp2_with fail
        go_ret
        obtain ⟨q1, q2, tO⟩ := HH.out
        rw [HQ.out]
        have t3 : Tch [b] w2 ((w2.setCell ⟨b, 0, none⟩ (.string ⟨n.toArray⟩)).setCell ⟨b, 5, none⟩ (.int .i64 1)) := ((Tch.refl [b] w2).setCell (.inl (by simp)) _).setCell (.inl (by simp)) _
        refine RLTo.yes rfl (O' := O) (tO.trans t2 (fun _ _ h => h) (by simp)) ⟨vf, vi, vm, ve, ?_, ((q2.tch0 t2).setb t3).name n⟩ (t3.mono (fun k _ hk => by simp at hk; subst hk; exact hbO)) (NewL.refl _ _)
        exact set7 (set7 ((t2.block b hb1 (by simp)).trans q1) 0 _) 5 _
    · have hq : lineR UU ⟨i, 0⟩ (w0 :: r) = none := by
        unfold lineR
        simp only [if_true]
        match r, hl1 with
        | [], _ => rfl
        | [n], hl1 => simp at hl1
        | _ :: _ :: _, _ => rfl
      have hlb : ((r.length : Int) + 1 != 2) = true := by simp; omega
      have hlb2 : (r.length + 1 != 2) = true := by simp; omega
      have hlb3 : (r.length != 1) = true := by simp [hl1]
      have HQ := Lib.hid (And.intro hq tO)
      clear hq hw1 h1 h q1 q2 t1 hl1
      go_wp2_with fail
      go_ret
      rw [HQ.out.1]
      exact RLTo.no rfl HQ.out.2
  · have hkb : (w0 == [97, 112, 112, 108, 101, 116]) = false := beq_eq_false_iff_ne.2 hk
    have hq : lineR UU ⟨i, 0⟩ (w0 :: r) = none := lineR0 UU hk
    have HQ := Lib.hid (And.intro hq tO)
    clear hq hw1 h1 h q1 q2 t1 hk
    go_wp2_with fail
    go_ret
    rw [HQ.out.1]
    exact RLTo.no rfl HQ.out.2
set_option maxRecDepth 100000 in
set_option maxHeartbeats 8000000 in
theorem rl_field (w : World) (b : Nat) (O : List Nat) (i : Img) (a : Nat) (h : PRx w b O i a) (ha : a ≠ 0 ∧ a ≤ 2) (hsz : i.fields.length ≤ 1099511627776) (a0 : Option Addr) (c0 : Nat) (r : List Wd) (hw : Src w O (.slice a0 (r.length + 1) c0) (r.length + 1) (strs (kField :: r))) (hl : r.length + 1 ≤ 1099511627776) (hwl : ∀ wd ∈ r, wd.length ≤ 1099511627776) (hV : ValO w O) :
    Calls Tryz.prog 33 #[.pointer (some ⟨b, 0, none⟩), .slice a0 (r.length + 1) c0] w fun e w' => RLTo w w' b O (lineR UU ⟨i, a⟩ (kField :: r)) e := by
  have hbO := h.b
  have hOl := h.ol
  obtain ⟨ad, rfl, hadl0, hadO, hq⟩ := Src.at hw (j := 0) (by simp)
  rw [Addr_add_zero] at hq
  have hq00 : w.cell? ad = some (.string ⟨(kField : Wd).toArray⟩) := by simpa [strs] using hq
  clear hq
  obtain ⟨i0, hi, hz0, hz1, hz2⟩ := info_parts info_intT
  obtain ⟨ha, hb⟩ := ha
  have ha0 : ((a : Int) == 0) = false := by simp; omega
  have ha1 : (a == 0) = false := by simp; omega
  have hle2 : decide ((a : Int) ≤ 2) = true := decide_eq_true (by omega)
  have hlf2 : decide (a ≤ 2) = true := decide_eq_true (by omega)
  go_enter Tryz.func33, Tryz.ntmps33
  go_wp2_with fail
  refine (ref_Op kField w).mono ?_
  rintro e w1 ⟨rfl, t1⟩
  have hadl := Nat.lt_of_lt_of_le hadl0 t1.size
  have hq0 := (t1.cell (p := ad) hadl0 (by simp)).trans hq00
  have hw1 := hw.tch t1 (by simp)
  have tO : Tch O w w1 := t1.nil
  have h1 := h.tch0 t1
  obtain ⟨vf, vi, vm, ve, q1, q2⟩ := (show PRx w1 b O i _ from h1).cells
  obtain ⟨d0, d1, d2, d3, d4, d5, hf⟩ := cells6 q1
  have hb1 := heap_lt q1
  obtain ⟨op, hop⟩ : ∃ op, op = opAt kField := ⟨_, rfl⟩
  rw [← hop]
  have HOP := Lib.hid hop
  clear hop hq00 hw
  obtain ⟨hcut, hsrc⟩ := cut_words (ws := kField :: r) hw1 (n := 1) (by simp)
  have hlw : (kField :: r).length = r.length + 1 := rfl
  rw [hlw] at hcut
  have e1 : (kField :: r).drop 1 = r := rfl
  rw [e1] at hsrc
  have e2 : r.length + 1 - 1 = r.length := rfl
  rw [e2] at hcut
  generalize cutA (some ad) 1 1 c0 = ax at hcut hsrc
  have hcut1 : ∀ w', (Instr.slice 61 (.slice (some ad) (r.length + 1) c0) (some (.int .i64 1)) none none).run Tryz.prog w' = .ok (.slice ax r.length (c0 - 1)) w' := hcut
  clear hcut
  generalize c0 - 1 = c1 at hcut1 hsrc
  have hK := rf_kindsOf w1 O ax c1 r hsrc (by omega)
  have hR : lineR UU ⟨i, a⟩ (kField :: r) = match kindsP UU r with
      | some [k] => some ⟨{ i with fields := i.fields ++ [k] }, 2⟩
      | _ => none := by
    unfold lineR
    simp only [if_neg ha, true_and]
    rw [if_pos hb]
    rfl
  have HR := Lib.hid (And.intro hR (And.intro tO h1))
  clear hR hw1 h1 h q1 q2 hsrc tO t1 ha hb
  go_wp2_with fail
  refine hK.mono ?_
  rintro e w2 ⟨t2, hk2⟩
  clear hK
  have h2 := HR.out.2.2.tch0 t2
  obtain ⟨vf', vi', vm', ve', q1, q2⟩ := (show PRx w2 b O i a from h2).cells
  clear d0 d1 d2 d3 d4 d5 hf
  obtain ⟨d0, d1, d2, d3, d4, d5, hf⟩ := cells6 q1
  have hb2 := heap_lt q1
  unfold KindsTo at hk2
  cases hkp : kindsP UU r with
  | none =>
    rw [hkp] at hk2
    subst hk2
    have hq : lineR UU ⟨i, a⟩ (kField :: r) = none := by rw [HR.out.1, hkp]
    have HQ := Lib.hid hq
    clear hq hkp q1 q2 h2
    go_wp2_with fail
    go_ret
    rw [HQ.out]
    exact RLTo.no rfl (HR.out.2.1.trans t2 (fun _ _ h => h) (by simp))
  | some l =>
    rw [hkp] at hk2
    obtain ⟨v, rfl, hv⟩ := hk2
    obtain ⟨al, cl, rfl⟩ := ownsRow_form hv.1
    by_cases hl1 : l.length = 1
    · obtain ⟨k, rfl⟩ : ∃ k, l = [k] := by
        match l, hl1 with
        | [k], _ => exact ⟨k, rfl⟩
      have hq : lineR UU ⟨i, a⟩ (kField :: r) = some ⟨{ i with fields := i.fields ++ [k] }, 2⟩ := by rw [HR.out.1, hkp]
      obtain ⟨adk, rfl, _, _, hck⟩ := Src.at (hv.src [] (by simp)) (j := 0) (by simp)
      rw [Addr_add_zero] at hck
      have hck0 : w2.cell? adk = some (.int .i64 k) := by simpa [ints] using hck
      have hown := q2.ownF
      have hneb := q2.neF
      have hneb' : some b ≠ vf'.ownBlock := fun h => hneb h.symm
      have hbnd : i.fields.length + 1 ≤ 9223372036854775807 ∧ (i.fields.length + 1) * 8 ≤ 140737488355328 := by omega
      have HQ := Lib.hid (And.intro hq (And.intro q1 q2))
      clear hq hkp q1 q2 h2 hv hck hl1
      go_wp2_with fail
      go_region_law (first | (refine step_append_any _ rfl (.tmp 89) (.tmp 93) 23 rfl 3 i0 (.int .i64 0) 1 8 Tryz.underlying23 hi hz0 hz1 hz2 rfl (by decide) vf' i.fields.length (ints i.fields) rfl (hown.alloc _).drew [] _ 1 [.int .i64 k] rfl (src_new w2 _ [] #[.int .i64 k] _ 1 1 (Tch.refl [] _).drew (by simp)) rfl (by intro u hu; simp at hu; subst hu; rfl) hbnd ?_; intro ao cap w6 hown6 hgrow6 hat6; have e6 : w6.cell? ⟨b, 1, none⟩ = some vf' := (hgrow6.cell_far ⟨b, 1, none⟩ (by simp; omega) hneb').trans ((World.cell?_alloc_past _ _ _ hb2).trans d1); have f6 : ∀ j, w6.frozen? ⟨b, j, none⟩ = false := (fun j => (hgrow6.frozen_far ⟨b, j, none⟩ (by simp; omega) hneb').trans ((World.frozen?_alloc_past _ _ _ hb2).trans (hf j)))))
      all_goals
        have e65 : w6.cell? ⟨b, 5, none⟩ = some (.int .i64 a) := (hgrow6.cell_far ⟨b, 5, none⟩ (by simp; omega) hneb').trans ((World.cell?_alloc_past _ _ _ hb2).trans d5)
        go_wp2_with fail
        go_ret
        obtain ⟨hq, q1, q2⟩ := HQ.out
        have ta : Tch [] w2 ((w2.alloc (.cells #[.int .i64 k] 3)).drew) := ((Tch.refl [] w2).alloc _).drew
        have hb2a := Nat.lt_of_lt_of_le hb2 ta.size
        obtain ⟨O', g1, g2, g3⟩ := PR1.put ((ta.block b hb2 (by simp)).trans q1) ((q2.tch0 ta).putF (x := [k]) hb2a ⟨hown6, hgrow6, hat6⟩) (hgrow6.block b hb2a hneb') hbO 1 _ 2 rfl
        rw [hq]
        exact RLTo.yes rfl (HR.out.2.1.trans (t2.then ta) (fun _ _ h => h) (by simp)) g1 g2 g3
    · have hq : lineR UU ⟨i, a⟩ (kField :: r) = none := by
        rw [HR.out.1, hkp]
        match l, hl1 with
        | [], _ => rfl
        | [_], h => simp at h
        | _ :: _ :: _, _ => rfl
      have hlb : ((l.length : Int) != 1) = true := by simp; omega
      have hlb2 : (l.length != 1) = true := by simp; omega
      have HQ := Lib.hid hq
      clear hq hkp q1 q2 h2 hv hl1
      go_wp2_with fail
      go_ret
      rw [HQ.out]
      exact RLTo.no rfl (HR.out.2.1.trans t2 (fun _ _ h => h) (by simp))
end Go.Proofs.YteebapopeaafhaaGreatDoor
