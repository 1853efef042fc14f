/-
  CONTRACTS: the document's parser: a line: export, locals. Conditions: utf8's tables as they are laid; sizes.
  CONTRACTS: the document's parser: a line: an import. Conditions: utf8's tables as they are laid; sizes.
-/
import Derived.Test.YteebapopeaafhaaGreatDoorHTy1
import Derived.Deep.QuietTactic
import Derived.BigQuiet
namespace Go.Proofs.YteebapopeaafhaaGreatDoor
open Go.RowKit Go.Tcn
set_option linter.unusedVariables false
set_option linter.unusedSimpArgs false
/-- An export's words. -/
def exR (i : Img) (r : List Wd) : Option PR := match r with
  | [e] => (UU.num e).map fun x => ⟨{ i with exports := i.exports ++ [x] }, 7⟩
  | _ => none
set_option maxRecDepth 100000 in
set_option maxHeartbeats 8000000 in
theorem rl_export (w : World) (b : Nat) (O : List Nat) (i : Img) (a : Nat) (h : PRx w b O i a) (ha : 4 ≤ a) (hsz : i.exports.length ≤ 1099511627776) (a0 : Option Addr) (c0 : Nat) (r : List Wd) (hw : Src w O (.slice a0 (r.length + 1) c0) (r.length + 1) (strs (kExport :: r))) (hl : r.length + 1 ≤ 1099511627776) (hwl : ∀ wd ∈ r, wd.length ≤ 1099511627776) (hV : ValO w O) :
    Calls Tryz.prog 33 #[.pointer (some ⟨b, 0, none⟩), .slice a0 (r.length + 1) c0] w fun e w' => RLTo w w' b O (lineR UU ⟨i, a⟩ (kExport :: r)) e := by
  have hbO := h.b
  have hOl := h.ol
  obtain ⟨ad, rfl, hadl0, hadO, hq⟩ := Src.at hw (j := 0) (by simp)
  rw [Addr_add_zero] at hq
  have hq00 : w.cell? ad = some (.string ⟨(kExport : Wd).toArray⟩) := by simpa [strs] using hq
  clear hq
  obtain ⟨i0, hi, hz0, hz1, hz2⟩ := info_parts info_intT
  have ha0 : ((a : Int) == 0) = false := by simp; omega
  have ha1 : (a == 0) = false := by simp; omega
  have hge4 : decide ((4 : Int) ≤ (a : Int)) = true := decide_eq_true (by omega)
  have hgf4 : decide (4 ≤ a) = true := decide_eq_true (by omega)
  go_enter Tryz.func33, Tryz.ntmps33
  go_wp2_with fail
  refine (ref_Op kExport w).mono ?_
  rintro e w1 ⟨rfl, t1⟩
  have hadl := Nat.lt_of_lt_of_le hadl0 t1.size
  have hq0 := (t1.cell (p := ad) hadl0 (by simp)).trans hq00
  have hw1 := hw.tch t1 (by simp)
  have tO : Tch O w w1 := t1.nil
  have h1 := h.tch0 t1
  obtain ⟨vf, vi, vm, ve, q1, q2⟩ := (show PRx w1 b O i _ from h1).cells
  obtain ⟨d0, d1, d2, d3, d4, d5, hf⟩ := cells6 q1
  have hb1 := heap_lt q1
  obtain ⟨op, hop⟩ : ∃ op, op = opAt kExport := ⟨_, rfl⟩
  rw [← hop]
  have HOP := Lib.hid hop
  clear hop hq00 hw
  have hop0 : op = 0 := HOP.out.trans UU.k6
  subst hop0
  have hR : lineR UU ⟨i, a⟩ (kExport :: r) = exR i r := by
    unfold lineR
    simp only
    rw [if_neg (by omega), if_neg (fun h => absurd h.1 (by decide)), if_neg (fun h => absurd h.1 (by decide)), if_neg (fun h => absurd h.1 (by decide)), if_neg (fun h => absurd h.1 (by decide)), if_neg (fun h => by have h1 := h.1; rw [show UU.op kExport = 0 from UU.k6] at h1; omega), if_pos (by simp [ha])]
    match r with
    | [] => rfl
    | [_] => rfl
    | _ :: _ :: _ => rfl
  have HR := Lib.hid (And.intro hR (And.intro tO h1))
  by_cases hl1 : r.length = 1
  · obtain ⟨n, rfl⟩ : ∃ n, r = [n] := by
      match r, hl1 with
      | [n], _ => exact ⟨n, rfl⟩
    have hn2 : w1.cell? ⟨ad.block, ad.off + 1, none⟩ = some (.string ⟨n.toArray⟩) := words_at (ws := [kExport, n]) hw1 (j := 1) (by simp) (by omega)
    have hlr : ([n] : List Wd).length = 1 := rfl
    have hN := rf_number w1 n (hwl n (by simp))
    rw [numTo_any] at hN
    have hown := q2.ownE
    have hneb := q2.neE
    have hneb' : some b ≠ ve.ownBlock := fun h => hneb h.symm
    have hbnd : i.exports.length + 1 ≤ 9223372036854775807 ∧ (i.exports.length + 1) * 8 ≤ 140737488355328 := by omega
    obtain ⟨x, hx⟩ : ∃ x, x = (numW n).getD 0 := ⟨_, rfl⟩
    obtain ⟨ok, hok⟩ : ∃ ok, ok = (numW n).isSome := ⟨_, rfl⟩
    rw [← hx, ← hok] at hN
    have HQ := Lib.hid (And.intro q1 (And.intro q2 (And.intro hx hok)))
    clear hx hok q1 q2 hw1 h1 h tO t1 hl1 hl hwl hV hR
    go_wp2_with fail
    refine hN.mono ?_
    rintro e w2 ⟨rfl, rfl⟩
    clear hN
    cases ok
    · go_wp2_with fail
      go_ret
      obtain ⟨hR, tO, h1⟩ := HR.out
      obtain ⟨q1, q2, hx, hok⟩ := HQ.out
      have hn : numW n = none := Option.isSome_eq_false_iff.1 hok.symm |> Option.isNone_iff_eq_none.1
      have hq : lineR UU ⟨i, a⟩ [kExport, n] = none := by rw [hR]; show (numW n).map _ = none; rw [hn]; rfl
      rw [hq]
      exact RLTo.no rfl tO
    · go_wp2_with (first | (at_builtin; refine wpList_append_any _ rfl (.tmp 370) (.tmp 372) 23 rfl 3 i0 (.int .i64 0) 1 8 Tryz.underlying23 hi hz0 hz1 hz2 rfl (by decide) ve i.exports.length (ints i.exports) rfl (hown.alloc _) [] _ 1 [.int .i64 x] rfl (src_new w1 _ [] #[.int .i64 x] _ 1 1 (Tch.refl [] _) (by simp)) rfl (by intro u hu; simp at hu; subst hu; rfl) hbnd ?_; intro ao cap w4 hown3 hgrow hat; have f1 : ∀ j, w4.frozen? ⟨b, j, none⟩ = false := (fun j => (hgrow.frozen_far ⟨b, j, none⟩ (by simp; omega) hneb').trans ((World.frozen?_alloc_past _ _ _ hb1).trans (hf j))); have e1 := (hgrow.cell_far ⟨b, 4, none⟩ (by simp; omega) hneb').trans ((World.cell?_alloc_past _ _ _ hb1).trans d4); have e5 := (hgrow.cell_far ⟨b, 5, none⟩ (by simp; omega) hneb').trans ((World.cell?_alloc_past _ _ _ hb1).trans d5)) | fail)
      go_ret
      obtain ⟨hR, tO, h1⟩ := HR.out
      obtain ⟨q1, q2, hx, hok⟩ := HQ.out
      have hn : numW n = some x := by
        obtain ⟨y, hy⟩ := Option.isSome_iff_exists.1 hok.symm
        rw [hx, hy]; rfl
      have hq : lineR UU ⟨i, a⟩ [kExport, n] = some ⟨{ i with exports := i.exports ++ [x] }, 7⟩ := by rw [hR]; show (numW n).map _ = _; rw [hn]; rfl
      rw [hq]
      have ta : Tch [] w1 (w1.alloc (.cells #[.int .i64 x] 3)) := (Tch.refl [] w1).alloc _
      have hb2a := Nat.lt_of_lt_of_le hb1 ta.size
      obtain ⟨O', g1, g2, g3⟩ := PR1.put ((ta.block b hb1 (by simp)).trans q1) ((q2.tch0 ta).putE (x := [x]) hb2a ⟨hown3, hgrow, hat⟩) (hgrow.block b hb2a hneb') hbO 4 _ 7 rfl
      exact RLTo.yes rfl (tO.trans ta (fun _ _ h => h) (by simp)) g1 g2 g3
  · have hq : lineR UU ⟨i, a⟩ (kExport :: r) = none := by
      rw [hR]
      match r, hl1 with
      | [], _ => rfl
      | [n], hl1 => simp at hl1
      | _ :: _ :: _, _ => rfl
    have hlb : ((r.length : Int) + 1 != 2) = true := by simp; omega
    have hlb2 : (r.length + 1 != 2) = true := by simp; omega
    have hlb3 : (r.length != 1) = true := by simp [hl1]
    have HQ := Lib.hid (And.intro hq tO)
    clear hq hw1 h1 h q1 q2 t1 hl1 hR
    go_wp2_with fail
    go_ret
    rw [HQ.out.1]
    exact RLTo.no rfl HQ.out.2
set_option maxRecDepth 100000 in
set_option maxHeartbeats 8000000 in
theorem rl_locals (w : World) (b : Nat) (O : List Nat) (i : Img) (a : Nat) (h : PRx w b O i a) (ha : a = 4) (hm0 : i.methods ≠ []) (hsz : i.methods.length ≤ 1099511627776) (a0 : Option Addr) (c0 : Nat) (r : List Wd) (hw : Src w O (.slice a0 (r.length + 1) c0) (r.length + 1) (strs (kLocals :: r))) (hl : r.length + 1 ≤ 1099511627776) (hwl : ∀ wd ∈ r, wd.length ≤ 1099511627776) (hV : ValO w O) :
    Calls Tryz.prog 33 #[.pointer (some ⟨b, 0, none⟩), .slice a0 (r.length + 1) c0] w fun e w' => RLTo w w' b O (lineR UU ⟨i, a⟩ (kLocals :: r)) e := by
  have hbO := h.b
  have hOl := h.ol
  obtain ⟨ad, rfl, hadl0, hadO, hq⟩ := Src.at hw (j := 0) (by simp)
  rw [Addr_add_zero] at hq
  have hq00 : w.cell? ad = some (.string ⟨(kLocals : Wd).toArray⟩) := by simpa [strs] using hq
  clear hq
  subst ha
  go_enter Tryz.func33, Tryz.ntmps33
  go_wp2_with fail
  refine (ref_Op kLocals w).mono ?_
  rintro e w1 ⟨rfl, t1⟩
  have hadl := Nat.lt_of_lt_of_le hadl0 t1.size
  have hq0 := (t1.cell (p := ad) hadl0 (by simp)).trans hq00
  have hw1 := hw.tch t1 (by simp)
  have tO : Tch O w w1 := t1.nil
  have h1 := h.tch0 t1
  obtain ⟨vf, vi, vm, ve, q1, q2⟩ := (show PRx w1 b O i _ from h1).cells
  obtain ⟨d0, d1, d2, d3, d4, d5, hf⟩ := cells6 q1
  have hb1 := heap_lt q1
  obtain ⟨op, hop⟩ : ∃ op, op = opAt kLocals := ⟨_, rfl⟩
  rw [← hop]
  have HOP := Lib.hid hop
  clear hop hq00 hw
  obtain ⟨hcut, hsrc⟩ := cut_words (ws := kLocals :: r) hw1 (n := 1) (by simp)
  have hlw : (kLocals :: r).length = r.length + 1 := rfl
  rw [hlw] at hcut
  have e1 : (kLocals :: r).drop 1 = r := rfl
  rw [e1] at hsrc
  have e2 : r.length + 1 - 1 = r.length := rfl
  rw [e2] at hcut
  generalize cutA (some ad) 1 1 c0 = ax at hcut hsrc
  have hcut1 : ∀ w', (Instr.slice 61 (.slice (some ad) (r.length + 1) c0) (some (.int .i64 1)) none none).run Tryz.prog w' = .ok (.slice ax r.length (c0 - 1)) w' := hcut
  clear hcut
  generalize c0 - 1 = c1 at hcut1 hsrc
  have hK := rf_kindsOf w1 O ax c1 r hsrc (by omega)
  have hR : lineR UU ⟨i, 4⟩ (kLocals :: r) = match kindsP UU r with
      | some (k :: l) => some ⟨{ i with methods := addLast i.methods fun m => { m with locals := k :: l } }, 5⟩
      | _ => none := by
    unfold lineR
    simp only
    rw [if_neg (by omega), if_neg (fun h => absurd h.1 (by decide)), if_neg (fun h => absurd h.1 (by decide)), if_neg (fun h => absurd h.1 (by decide)), if_pos (by simp)]
    rfl
  have HR := Lib.hid (And.intro hR (And.intro tO h1))
  clear hR hw1 h1 h q1 q2 hsrc tO
  go_wp2_with fail
  refine hK.mono ?_
  rintro e w2 ⟨t2, hk2⟩
  clear hK
  have h2 := HR.out.2.2.tch0 t2
  obtain ⟨vf', vi', vm', ve', q1, q2⟩ := (show PRx w2 b O i 4 from h2).cells
  clear d0 d1 d2 d3 d4 d5 hf
  obtain ⟨d0, d1, d2, d3, d4, d5, hf⟩ := cells6 q1
  have hb2 := heap_lt q1
  unfold KindsTo at hk2
  cases hkp : kindsP UU r with
  | none =>
    rw [hkp] at hk2
    subst hk2
    have hq : lineR UU ⟨i, 4⟩ (kLocals :: r) = none := by rw [HR.out.1, hkp]
    have HQ := Lib.hid hq
    clear hq hkp q1 q2 h2
    go_wp2_with fail
    go_ret
    rw [HQ.out]
    exact RLTo.no rfl (HR.out.2.1.trans t2 (fun _ _ h => h) (by simp))
  | some l =>
    rw [hkp] at hk2
    obtain ⟨v, rfl, hv⟩ := hk2
    obtain ⟨al, cl, rfl⟩ := ownsRow_form hv.1
    by_cases hl0 : l = []
    · subst hl0
      have hq : lineR UU ⟨i, 4⟩ (kLocals :: r) = none := by rw [HR.out.1, hkp]
      have HQ := Lib.hid hq
      clear hq hkp q1 q2 h2 hv
      go_wp2_with fail
      go_ret
      rw [HQ.out]
      exact RLTo.no rfl (HR.out.2.1.trans t2 (fun _ _ h => h) (by simp))
    · obtain ⟨ms, m, hms⟩ := last_of hm0
      obtain ⟨g, cap, vc, hvm, hgl, hgb, _, hgf, ⟨u, hgu⟩, _, _, _, _, hput⟩ := q2.last hb2 hms
      subst hvm
      have hml : i.methods.length = ms.length + 1 := by rw [hms]; simp
      have hd : ((l.length : Int) == 0) = false := by have := List.length_pos_iff.2 hl0; simp; omega
      have hd2 : (l.length == 0) = false := by simp [hl0]
      have hd3 : l.isEmpty = false := by simp [hl0]
      have hq : lineR UU ⟨i, 4⟩ (kLocals :: r) = some ⟨{ i with methods := ms ++ [{ m with locals := l }] }, 5⟩ := by
        rw [HR.out.1, hkp]
        match l, hl0 with
        | k :: l, _ => simp only; rw [hms, addLast_snoc]
      rw [hml] at d3 hsz
      have hRl : RInts w2 O (.slice al l.length cl) l := (hv.src O (fun k hk => Nat.lt_of_lt_of_le (hOl k hk) t1.size))
      have hgf2 := hgf (ms.length * 4 + 2)
      have HX := Lib.hid (And.intro hq (And.intro q1 (And.intro (hput (.slice al l.length cl) l hRl) t2)))
      clear hq hkp hput hv q1 q2 hl0 hm0 hms hml hRl h2 t2
      go_wp2_with fail
      go_region
      all_goals
        have e5 : (w2.setCell ⟨g, ms.length * 4 + 2, none⟩ (.slice al l.length cl)).cell? ⟨b, 5, none⟩ = some (.int .i64 4) := by
          rw [World.cell?_of_block (Below.heap_setCell _ _ _ _ (by exact fun e => hgb e.symm))]; exact d5
        have f5 : (w2.setCell ⟨g, ms.length * 4 + 2, none⟩ (.slice al l.length cl)).frozen? ⟨b, 5, none⟩ = false := by
          rw [World.frozen?_of_block (Below.heap_setCell _ _ _ _ (by exact fun e => hgb e.symm))]; exact hf 5
        go_wp2_with fail
        go_ret
        obtain ⟨hq, q1, ⟨O', g1, g2, g3⟩, t2⟩ := HX.out
        rw [hq]
        have t5 : Tch [b] (w2.setCell ⟨g, ms.length * 4 + 2, none⟩ (.slice al l.length cl)) ((w2.setCell ⟨g, ms.length * 4 + 2, none⟩ (.slice al l.length cl)).setCell ⟨b, 5, none⟩ (.int .i64 5)) := (Tch.refl [b] _).setCell (.inl (by simp)) _
        have hb' : (w2.setCell ⟨g, ms.length * 4 + 2, none⟩ (.slice al l.length cl)).heap[b]? = _ := (Below.heap_setCell _ _ _ _ (by exact fun e => hgb e.symm)).trans q1
        refine RLTo.yes (w1 := w2) rfl (O' := O') (HR.out.2.1.trans t2 (fun _ _ h => h) (by simp)) ⟨vf', vi', .slice (some ⟨g, 0, none⟩) i.methods.length cap, ve', ?_, (g1.setb t5).tch0 ((Tch.refl [] _).drew)⟩ ((g2.trans t5 (fun _ _ h => h) (fun k _ hk => by simp at hk; subst hk; exact hbO)).drew) g3
        exact set7 hb' 5 _
end Go.Proofs.YteebapopeaafhaaGreatDoor
namespace Go.Proofs.YteebapopeaafhaaGreatDoor
open Go.RowKit Go.Tcn
set_option linter.unusedVariables false
set_option linter.unusedSimpArgs false
/-- An import's words. -/
def imR (i : Img) (r : List Wd) : Option PR := match r with
  | n :: e :: k :: ps => if UU.isName n = true ∧ 0 ≤ UU.kind k then match UU.num e, kindsP UU ps with
    | some x, some l => some ⟨{ i with imports := i.imports ++ [⟨n, x, l, UU.kind k⟩] }, 3⟩
    | _, _ => none else none
  | _ => none
set_option maxRecDepth 100000 in
set_option maxHeartbeats 8000000 in
theorem rl_import (w : World) (b : Nat) (O : List Nat) (i : Img) (a : Nat) (h : PRx w b O i a) (ha : a ≠ 0 ∧ a ≤ 3) (hsz : i.imports.length ≤ 1099511627776) (a0 : Option Addr) (c0 : Nat) (r : List Wd) (hw : Src w O (.slice a0 (r.length + 1) c0) (r.length + 1) (strs (kImport :: r))) (hl : r.length + 1 ≤ 1099511627776) (hwl : ∀ wd ∈ r, wd.length ≤ 1099511627776) (hV : ValO w O) :
    Calls Tryz.prog 33 #[.pointer (some ⟨b, 0, none⟩), .slice a0 (r.length + 1) c0] w fun e w' => RLTo w w' b O (lineR UU ⟨i, a⟩ (kImport :: r)) e := by
  have hbO := h.b
  have hOl := h.ol
  obtain ⟨ad, rfl, hadl0, hadO, hq⟩ := Src.at hw (j := 0) (by simp)
  rw [Addr_add_zero] at hq
  have hq00 : w.cell? ad = some (.string ⟨(kImport : Wd).toArray⟩) := by simpa [strs] using hq
  clear hq
  obtain ⟨i0, hi, hz0, hz1, hz2⟩ := info_parts info_impT
  obtain ⟨ha, hb⟩ := ha
  have ha0 : ((a : Int) == 0) = false := by simp; omega
  have ha1 : (a == 0) = false := by simp; omega
  have hle3 : decide ((a : Int) ≤ 3) = true := decide_eq_true (by omega)
  have hlf3 : decide (a ≤ 3) = true := decide_eq_true (by omega)
  go_enter Tryz.func33, Tryz.ntmps33
  go_wp2_with fail
  refine (ref_Op kImport w).mono ?_
  rintro e w1 ⟨rfl, t1⟩
  have hadl := Nat.lt_of_lt_of_le hadl0 t1.size
  have hq0 := (t1.cell (p := ad) hadl0 (by simp)).trans hq00
  have hw1 := hw.tch t1 (by simp)
  have tO : Tch O w w1 := t1.nil
  have h1 := h.tch0 t1
  obtain ⟨vf, vi, vm, ve, q1, q2⟩ := (show PRx w1 b O i _ from h1).cells
  obtain ⟨d0, d1, d2, d3, d4, d5, hf⟩ := cells6 q1
  have hb1 := heap_lt q1
  obtain ⟨op, hop⟩ : ∃ op, op = opAt kImport := ⟨_, rfl⟩
  rw [← hop]
  have HOP := Lib.hid hop
  clear hop hq00 hw
  have hR : lineR UU ⟨i, a⟩ (kImport :: r) = imR i r := by
    unfold lineR
    simp only
    rw [if_neg ha, if_neg (fun h => absurd h.1 (by decide)), if_pos (by simp [hb])]
    match r with
    | [] => rfl
    | [_] => rfl
    | [_, _] => rfl
    | _ :: _ :: _ :: _ => rfl
  have HR := Lib.hid (And.intro hR (And.intro tO h1))
  clear hR ha hb
  obtain hl3 | ⟨wd, ew, kw, ps, rfl⟩ : r.length < 3 ∨ ∃ a b c ps, r = a :: b :: c :: ps := by
    match r with
    | [] => exact .inl (by simp)
    | [_] => exact .inl (by simp)
    | [_, _] => exact .inl (by simp)
    | a :: b :: c :: ps => exact .inr ⟨a, b, c, ps, rfl⟩
  · have hq : imR i r = none := by
      match r, hl3 with
      | [], _ => rfl
      | [_], _ => rfl
      | [_, _], _ => rfl
    have hd : decide ((r.length : Int) + 1 < 4) = true := decide_eq_true (by omega)
    have hd2 : decide (r.length + 1 < 4) = true := decide_eq_true (by omega)
    have hd3 : decide (r.length < 3) = true := decide_eq_true (by omega)
    have HH := Lib.hid hq
    clear hq hl3 hw1 h1 h q1 q2 tO t1
    go_wp2_with fail
    go_ret
    rw [HR.out.1, HH.out]
    exact RLTo.no rfl HR.out.2.1
  · have hx1 : w1.cell? ⟨ad.block, ad.off + 1, none⟩ = some (.string ⟨wd.toArray⟩) := words_at (ws := kImport :: wd :: ew :: kw :: ps) hw1 (j := 1) (by simp) (by omega)
    have hx2 : w1.cell? ⟨ad.block, ad.off + 2, none⟩ = some (.string ⟨ew.toArray⟩) := words_at (ws := kImport :: wd :: ew :: kw :: ps) hw1 (j := 2) (by simp) (by omega)
    have hx3 : w1.cell? ⟨ad.block, ad.off + 3, none⟩ = some (.string ⟨kw.toArray⟩) := words_at (ws := kImport :: wd :: ew :: kw :: ps) hw1 (j := 3) (by simp) (by omega)
    obtain ⟨hcut, hsrc⟩ := cut_words (ws := kImport :: wd :: ew :: kw :: ps) hw1 (n := 4) (by simp)
    have e1 : (kImport :: wd :: ew :: kw :: ps).drop 4 = ps := rfl
    rw [e1] at hsrc
    have hlw : (wd :: ew :: kw :: ps).length = ps.length + 3 := rfl
    have hlw2 : (kImport :: wd :: ew :: kw :: ps).length = ps.length + 4 := rfl
    rw [hlw2] at hcut
    rw [hlw] at hl ⊢
    have e2 : ps.length + 4 - 4 = ps.length := rfl
    rw [e2] at hcut
    generalize cutA (some ad) 4 1 c0 = ax at hcut hsrc
    have hcut1 : ∀ w', (Instr.slice 61 (.slice (some ad) (ps.length + 3 + 1) c0) (some (.int .i64 4)) none none).run Tryz.prog w' = .ok (.slice ax ps.length (c0 - 4)) w' := hcut
    clear hcut
    generalize c0 - 4 = c1 at hcut1 hsrc
    have hIs := ref_IsName w1 wd (fun h16 w' t => hV wd w' h16 (tO.trans t (fun _ _ h => h) (by simp)))
    have hN := fun (W : World) => rf_number W ew (hwl ew (by simp))
    have HSR := Lib.hid hsrc
    have hlp : ps.length ≤ 1099511627776 := by omega
    have hd : decide ((ps.length : Int) + 3 + 1 < 4) = false := decide_eq_false (by omega)
    have hd2 : decide (ps.length + 3 + 1 < 4) = false := decide_eq_false (by omega)
    have HT1 := Lib.hid t1
    clear hw1 h1 h q1 q2 hV tO t1 hsrc hwl hlw hlw2 e1 e2
    go_wp2_with fail
    refine hIs.mono ?_
    rintro e w3 ⟨rfl, t3⟩
    clear hIs
    cases hnm : nameB wd
    · have hq : imR i (wd :: ew :: kw :: ps) = none := by
        unfold imR
        simp only
        rw [if_neg (fun h => by have h1 : nameB wd = true := h.1; rw [hnm] at h1; cases h1)]
      have HQ := Lib.hid hq
      clear hq
      go_wp2_with fail
      go_ret
      rw [HR.out.1, HQ.out]
      exact RLTo.no rfl (HR.out.2.1.trans t3 (fun _ _ h => h) (by simp))
    · have g2 := (t3.cell (p := ⟨ad.block, ad.off + 2, none⟩) hadl (by simp)).trans hx2
      have g3 := (t3.cell (p := ⟨ad.block, ad.off + 3, none⟩) hadl (by simp)).trans hx3
      have g1 := (t3.cell (p := ⟨ad.block, ad.off + 1, none⟩) hadl (by simp)).trans hx1
      have HN := Lib.hid hnm
      have HA := Lib.hid hadl
      clear hnm hx1 hx2 hx3 d0 d1 d2 d3 d4 d5 hf hadl hq0
      go_wp2_with fail
      refine (hN w3).mono ?_
      rintro e w4 ⟨rfl, rfl⟩
      rw [numTo_any]
      clear hN
      obtain ⟨x, hx⟩ : ∃ x, x = (numW ew).getD 0 := ⟨_, rfl⟩
      obtain ⟨ok, hok⟩ : ∃ ok, ok = (numW ew).isSome := ⟨_, rfl⟩
      rw [← hx, ← hok]
      have HXO := Lib.hid (And.intro hx hok)
      clear hx hok
      go_wp2_with fail
      refine (rf_Kind w3 kw).mono ?_
      rintro e w5 ⟨rfl, rfl⟩
      have hK := rf_kindsOf w3 O ax c1 ps (HSR.out.tch t3 (by simp)) hlp
      go_wp2_with fail
      refine hK.mono ?_
      rintro e w5 ⟨t5, hk5⟩
      clear hK
      obtain ⟨al, l, cl, rfl, hv, hkl⟩ := kinds_any hk5
      have t35 := t3.then t5
      have l1 := (t5.cell (p := ⟨ad.block, ad.off + 1, none⟩) (Nat.lt_of_lt_of_le HA.out t3.size) (by simp)).trans g1
      clear g1 g2 g3 hk5
      obtain ⟨is, his⟩ : ∃ is, is = (kindsP UU ps).isSome := ⟨_, rfl⟩
      obtain ⟨rr, hrr⟩ : ∃ r, r = kindW kw := ⟨_, rfl⟩
      rw [← his, ← hrr]
      rw [← his] at hkl
      have h5 := HR.out.2.2.tch0 t35
      obtain ⟨vf', vi', vm', ve', q1, q2⟩ := (show PRx w5 b O i a from h5).cells
      obtain ⟨d0, d1, d2, d3, d4, d5, hf⟩ := cells6 q1
      obtain ⟨ics, hown, hneb, hput⟩ := q2.ownI
      have hbnd : i.imports.length + 1 ≤ 9223372036854775807 ∧ (i.imports.length + 1) * 56 ≤ 140737488355328 := by omega
      have hb2 := heap_lt q1
      have hneb' : some b ≠ vi'.ownBlock := fun h => hneb h.symm
      have HK := Lib.hid (And.intro his (And.intro hrr hkl))
      have HQ := Lib.hid (And.intro q1 (And.intro q2 hput))
      have HV := Lib.hid hv
      have H35 := Lib.hid (And.intro t3 t35)
      clear q1 q2 h5 hput his hrr hkl hv t3 t5 t35
      have hbad : ¬ (ok = true ∧ is = true ∧ 0 ≤ rr) → imR i (wd :: ew :: kw :: ps) = none := by
        intro hall
        obtain ⟨hx, hok⟩ := HXO.out
        obtain ⟨his, hrr, hkl⟩ := HK.out
        unfold imR
        simp only
        by_cases h0 : 0 ≤ rr
        · rw [if_pos ⟨HN.out, by show 0 ≤ kindW kw; rw [← hrr]; exact h0⟩]
          have h1 : UU.num ew = numW ew := rfl
          rw [h1]
          cases hn : numW ew with
          | none => rfl
          | some y =>
            cases hp : kindsP UU ps with
            | none => rfl
            | some l' =>
              rw [hn] at hok; rw [hp] at his
              exact absurd ⟨hok, his, h0⟩ hall
        · rw [if_neg (fun h => h0 (by rw [hrr]; exact h.2))]
      have HBAD := Lib.hid hbad
      clear hbad
      cases ok
      · go_wp2_with fail
        go_ret
        rw [HR.out.1, HBAD.out (by simp)]
        exact RLTo.no rfl (HR.out.2.1.trans H35.out.2 (fun _ _ h => h) (by simp))
      · by_cases hr0 : rr < 0
        · have hdr : decide (rr < 0) = true := decide_eq_true hr0
          have HR0 := Lib.hid hr0
          clear hr0
          go_wp2_with fail
          go_ret
          rw [HR.out.1, HBAD.out (by have := HR0.out; omega)]
          exact RLTo.no rfl (HR.out.2.1.trans H35.out.2 (fun _ _ h => h) (by simp))
        · have hdr : decide (rr < 0) = false := decide_eq_false hr0
          have HR0 := Lib.hid hr0
          clear hr0
          cases is
          · go_wp2_with fail
            go_ret
            rw [HR.out.1, HBAD.out (by simp)]
            exact RLTo.no rfl (HR.out.2.1.trans H35.out.2 (fun _ _ h => h) (by simp))
          · have hbd1 : (1 : Int) < (ps.length : Int) + 3 + 1 := by omega
            go_wp2_with fail
            go_region_law (first | (refine step_append_any _ rfl (.tmp 155) (.tmp 163) 27 rfl 51 i0 (.agg #[.string ⟨#[]⟩, .int .i64 0, .slice none 0 0, .int .i64 0]) 4 56 Tryz.underlying27 hi hz0 hz1 hz2 rfl (by decide) vi' i.imports.length ics rfl (hown.alloc _).drew [] _ 1 [.string ⟨wd.toArray⟩, .int .i64 x, .slice al l.length cl, .int .i64 rr] rfl (src_new w5 _ [] #[.string ⟨wd.toArray⟩, .int .i64 x, .slice al l.length cl, .int .i64 rr] _ 1 1 (Tch.refl [] _).drew (by simp)) rfl (one_imp _ _ _ _ _ _) hbnd ?_; intro ao cap2 w6 hown6 hgrow6 hat6; have e6 : w6.cell? ⟨b, 2, none⟩ = some vi' := (hgrow6.cell_far ⟨b, 2, none⟩ (by simp; omega) hneb').trans ((World.cell?_alloc_past _ _ _ hb2).trans d2); have f6 : ∀ j, w6.frozen? ⟨b, j, none⟩ = false := (fun j => (hgrow6.frozen_far ⟨b, j, none⟩ (by simp; omega) hneb').trans ((World.frozen?_alloc_past _ _ _ hb2).trans (hf j)))))
            all_goals
              have e65 : w6.cell? ⟨b, 5, none⟩ = some (.int .i64 a) := (hgrow6.cell_far ⟨b, 5, none⟩ (by simp; omega) hneb').trans ((World.cell?_alloc_past _ _ _ hb2).trans d5)
              go_wp2_with fail
              go_ret
              obtain ⟨q1, q2, _⟩ := HQ.out
              obtain ⟨hR, tO, h1⟩ := HR.out
              obtain ⟨t3, t35⟩ := H35.out
              have ta : Tch [] w5 ((w5.alloc (.cells #[.string ⟨wd.toArray⟩, .int .i64 x, .slice al l.length cl, .int .i64 rr] 51)).drew) := ((Tch.refl [] w5).alloc _).drew
              obtain ⟨ics2, o2, _, hput⟩ := (q2.tch0 ta).ownI
              have hmc : ics2 = ics := own_cells o2 (hown.alloc _).drew
              subst hmc
              have hRl : RInts ((w5.alloc (.cells #[.string ⟨wd.toArray⟩, .int .i64 x, .slice al l.length cl, .int .i64 rr] 51)).drew) O (.slice al l.length cl) l := (HV.out.tch ta).src O (fun k hk => by
                have := hOl k hk
                have h34 := t3.size
                have h11 := HT1.out.size
                omega)
              have hb2a := Nat.lt_of_lt_of_le hb2 ta.size
              obtain ⟨O', g1, g2, g3⟩ := PR1.put ((ta.block b hb2 (by simp)).trans q1) (hput w6 (.slice ao (i.imports.length + 1) cap2) (.slice al l.length cl) ⟨wd, x, l, rr⟩ _ hb2a ⟨hown6, hgrow6, hat6⟩ hRl) (hgrow6.block b hb2a hneb') hbO 2 (.slice ao (i.imports.length + 1) cap2) 3 rfl
              obtain ⟨hx, hok⟩ := HXO.out
              obtain ⟨his, hrr, hkl⟩ := HK.out
              have hnum : numW ew = some x := by
                obtain ⟨y, hy⟩ := Option.isSome_iff_exists.1 hok.symm
                rw [hx, hy]; rfl
              have hq : imR i (wd :: ew :: kw :: ps) = some ⟨{ i with imports := i.imports ++ [⟨wd, x, l, rr⟩] }, 3⟩ := by
                unfold imR
                simp only
                rw [if_pos ⟨HN.out, by show 0 ≤ kindW kw; rw [← hrr]; have := HR0.out; omega⟩]
                have h1 : UU.num ew = some x := hnum
                have h2 : kindsP UU ps = some l := hkl (by first | trivial | rfl)
                rw [h1, h2]
                show some _ = some _
                rw [hrr]; rfl
              rw [hR, hq]
              exact RLTo.yes rfl (tO.trans (t35.then ta) (fun _ _ h => h) (by simp)) g1 g2 g3
end Go.Proofs.YteebapopeaafhaaGreatDoor
