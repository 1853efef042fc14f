/-
  CONTRACTS: the document's parser: a line: export, locals. Conditions: utf8's tables as they are laid; sizes.
-/
import Derived.Test.YteebapopeaafhaaDoorHTy1
import Derived.Deep.QuietTactic
import Derived.BigQuiet
namespace Go.Proofs.YteebapopeaafhaaDoor
open Go.RowKit Go.Tcn
set_option linter.unusedVariables false
set_option linter.unusedSimpArgs false
/-- An export's words. -/
def exR (i : Img) (r : List Wd) : Option PR := match r with
  | [e] => (UU.num e).map fun x => ⟨{ i with exports := i.exports ++ [x] }, 7⟩
  | _ => none
set_option maxRecDepth 100000 in
set_option maxHeartbeats 8000000 in
theorem rl_export (w : World) (b : Nat) (O : List Nat) (i : Img) (a : Nat) (h : PRx w b O i a) (ha : 4 ≤ a) (hsz : i.exports.length ≤ 1099511627776) (a0 : Option Addr) (c0 : Nat) (r : List Wd) (hw : Src w O (.slice a0 (r.length + 1) c0) (r.length + 1) (strs (kExport :: r))) (hl : r.length + 1 ≤ 1099511627776) (hwl : ∀ wd ∈ r, wd.length ≤ 1099511627776) (hV : ValO w O) :
    Calls Tryd.prog 21 #[.pointer (some ⟨b, 0, none⟩), .slice a0 (r.length + 1) c0] w fun e w' => RLTo w w' b O (lineR UU ⟨i, a⟩ (kExport :: r)) e := by
  have hbO := h.b
  have hOl := h.ol
  obtain ⟨ad, rfl, hadl0, hadO, hq⟩ := Src.at hw (j := 0) (by simp)
  rw [Addr_add_zero] at hq
  have hq00 : w.cell? ad = some (.string ⟨(kExport : Wd).toArray⟩) := by simpa [strs] using hq
  clear hq
  obtain ⟨i0, hi, hz0, hz1, hz2⟩ := info_parts info_intT
  have ha0 : ((a : Int) == 0) = false := by simp; omega
  have ha1 : (a == 0) = false := by simp; omega
  have hge4 : decide ((4 : Int) ≤ (a : Int)) = true := decide_eq_true (by omega)
  have hgf4 : decide (4 ≤ a) = true := decide_eq_true (by omega)
  go_enter Tryd.func21, Tryd.ntmps21
  go_wp2_with fail
  refine (ref_Op kExport w).mono ?_
  rintro e w1 ⟨rfl, t1⟩
  have hadl := Nat.lt_of_lt_of_le hadl0 t1.size
  have hq0 := (t1.cell (p := ad) hadl0 (by simp)).trans hq00
  have hw1 := hw.tch t1 (by simp)
  have tO : Tch O w w1 := t1.nil
  have h1 := h.tch0 t1
  obtain ⟨vf, vi, vm, ve, q1, q2⟩ := (show PRx w1 b O i _ from h1).cells
  obtain ⟨d0, d1, d2, d3, d4, d5, hf⟩ := cells6 q1
  have hb1 := heap_lt q1
  obtain ⟨op, hop⟩ : ∃ op, op = opAt kExport := ⟨_, rfl⟩
  rw [← hop]
  have HOP := Lib.hid hop
  clear hop hq00 hw
  have hop0 : op = 0 := HOP.out.trans UU.k6
  subst hop0
  have hR : lineR UU ⟨i, a⟩ (kExport :: r) = exR i r := by
    unfold lineR
    simp only
    rw [if_neg (by omega), if_neg (fun h => absurd h.1 (by decide)), if_neg (fun h => absurd h.1 (by decide)), if_neg (fun h => absurd h.1 (by decide)), if_neg (fun h => absurd h.1 (by decide)), if_neg (fun h => by have h1 := h.1; rw [show UU.op kExport = 0 from UU.k6] at h1; omega), if_pos (by simp [ha])]
    match r with
    | [] => rfl
    | [_] => rfl
    | _ :: _ :: _ => rfl
  have HR := Lib.hid (And.intro hR (And.intro tO h1))
  by_cases hl1 : r.length = 1
  · obtain ⟨n, rfl⟩ : ∃ n, r = [n] := by
      match r, hl1 with
      | [n], _ => exact ⟨n, rfl⟩
    have hn2 : w1.cell? ⟨ad.block, ad.off + 1, none⟩ = some (.string ⟨n.toArray⟩) := words_at (ws := [kExport, n]) hw1 (j := 1) (by simp) (by omega)
    have hlr : ([n] : List Wd).length = 1 := rfl
    have hN := rf_number w1 n (hwl n (by simp))
    rw [numTo_any] at hN
    have hown := q2.ownE
    have hneb := q2.neE
    have hneb' : some b ≠ ve.ownBlock := fun h => hneb h.symm
    have hbnd : i.exports.length + 1 ≤ 9223372036854775807 ∧ (i.exports.length + 1) * 8 ≤ 140737488355328 := by omega
    obtain ⟨x, hx⟩ : ∃ x, x = (numW n).getD 0 := ⟨_, rfl⟩
    obtain ⟨ok, hok⟩ : ∃ ok, ok = (numW n).isSome := ⟨_, rfl⟩
    rw [← hx, ← hok] at hN
    have HQ := Lib.hid (And.intro q1 (And.intro q2 (And.intro hx hok)))
    clear hx hok q1 q2 hw1 h1 h tO t1 hl1 hl hwl hV hR
    go_wp2_with fail
    refine hN.mono ?_
    rintro e w2 ⟨rfl, rfl⟩
    clear hN
    cases ok
    · go_wp2_with fail
      go_ret
      obtain ⟨hR, tO, h1⟩ := HR.out
      obtain ⟨q1, q2, hx, hok⟩ := HQ.out
      have hn : numW n = none := Option.isSome_eq_false_iff.1 hok.symm |> Option.isNone_iff_eq_none.1
      have hq : lineR UU ⟨i, a⟩ [kExport, n] = none := by rw [hR]; show (numW n).map _ = none; rw [hn]; rfl
      rw [hq]
      exact RLTo.no rfl tO
    · go_wp2_with (first | (at_builtin; refine wpList_append_any _ rfl (.tmp 370) (.tmp 372) 22 rfl 3 i0 (.int .i64 0) 1 8 Tryd.underlying22 hi hz0 hz1 hz2 rfl (by decide) ve i.exports.length (ints i.exports) rfl (hown.alloc _) [] _ 1 [.int .i64 x] rfl (src_new w1 _ [] #[.int .i64 x] _ 1 1 (Tch.refl [] _) (by simp)) rfl (by intro u hu; simp at hu; subst hu; rfl) hbnd ?_; intro ao cap w4 hown3 hgrow hat; have f1 : ∀ j, w4.frozen? ⟨b, j, none⟩ = false := (fun j => (hgrow.frozen_far ⟨b, j, none⟩ (by simp; omega) hneb').trans ((World.frozen?_alloc_past _ _ _ hb1).trans (hf j))); have e1 := (hgrow.cell_far ⟨b, 4, none⟩ (by simp; omega) hneb').trans ((World.cell?_alloc_past _ _ _ hb1).trans d4); have e5 := (hgrow.cell_far ⟨b, 5, none⟩ (by simp; omega) hneb').trans ((World.cell?_alloc_past _ _ _ hb1).trans d5)) | fail)
      go_ret
      obtain ⟨hR, tO, h1⟩ := HR.out
      obtain ⟨q1, q2, hx, hok⟩ := HQ.out
      have hn : numW n = some x := by
        obtain ⟨y, hy⟩ := Option.isSome_iff_exists.1 hok.symm
        rw [hx, hy]; rfl
      have hq : lineR UU ⟨i, a⟩ [kExport, n] = some ⟨{ i with exports := i.exports ++ [x] }, 7⟩ := by rw [hR]; show (numW n).map _ = _; rw [hn]; rfl
      rw [hq]
      have ta : Tch [] w1 (w1.alloc (.cells #[.int .i64 x] 3)) := (Tch.refl [] w1).alloc _
      have hb2a := Nat.lt_of_lt_of_le hb1 ta.size
      obtain ⟨O', g1, g2, g3⟩ := PR1.put ((ta.block b hb1 (by simp)).trans q1) ((q2.tch0 ta).putE (x := [x]) hb2a ⟨hown3, hgrow, hat⟩) (hgrow.block b hb2a hneb') hbO 4 _ 7 rfl
      exact RLTo.yes rfl (tO.trans ta (fun _ _ h => h) (by simp)) g1 g2 g3
  · have hq : lineR UU ⟨i, a⟩ (kExport :: r) = none := by
      rw [hR]
      match r, hl1 with
      | [], _ => rfl
      | [n], hl1 => simp at hl1
      | _ :: _ :: _, _ => rfl
    have hlb : ((r.length : Int) + 1 != 2) = true := by simp; omega
    have hlb2 : (r.length + 1 != 2) = true := by simp; omega
    have hlb3 : (r.length != 1) = true := by simp [hl1]
    have HQ := Lib.hid (And.intro hq tO)
    clear hq hw1 h1 h q1 q2 t1 hl1 hR
    go_wp2_with fail
    go_ret
    rw [HQ.out.1]
    exact RLTo.no rfl HQ.out.2
set_option maxRecDepth 100000 in
set_option maxHeartbeats 8000000 in
theorem rl_locals (w : World) (b : Nat) (O : List Nat) (i : Img) (a : Nat) (h : PRx w b O i a) (ha : a = 4) (hm0 : i.methods ≠ []) (hsz : i.methods.length ≤ 1099511627776) (a0 : Option Addr) (c0 : Nat) (r : List Wd) (hw : Src w O (.slice a0 (r.length + 1) c0) (r.length + 1) (strs (kLocals :: r))) (hl : r.length + 1 ≤ 1099511627776) (hwl : ∀ wd ∈ r, wd.length ≤ 1099511627776) (hV : ValO w O) :
    Calls Tryd.prog 21 #[.pointer (some ⟨b, 0, none⟩), .slice a0 (r.length + 1) c0] w fun e w' => RLTo w w' b O (lineR UU ⟨i, a⟩ (kLocals :: r)) e := by
  have hbO := h.b
  have hOl := h.ol
  obtain ⟨ad, rfl, hadl0, hadO, hq⟩ := Src.at hw (j := 0) (by simp)
  rw [Addr_add_zero] at hq
  have hq00 : w.cell? ad = some (.string ⟨(kLocals : Wd).toArray⟩) := by simpa [strs] using hq
  clear hq
  subst ha
  go_enter Tryd.func21, Tryd.ntmps21
  go_wp2_with fail
  refine (ref_Op kLocals w).mono ?_
  rintro e w1 ⟨rfl, t1⟩
  have hadl := Nat.lt_of_lt_of_le hadl0 t1.size
  have hq0 := (t1.cell (p := ad) hadl0 (by simp)).trans hq00
  have hw1 := hw.tch t1 (by simp)
  have tO : Tch O w w1 := t1.nil
  have h1 := h.tch0 t1
  obtain ⟨vf, vi, vm, ve, q1, q2⟩ := (show PRx w1 b O i _ from h1).cells
  obtain ⟨d0, d1, d2, d3, d4, d5, hf⟩ := cells6 q1
  have hb1 := heap_lt q1
  obtain ⟨op, hop⟩ : ∃ op, op = opAt kLocals := ⟨_, rfl⟩
  rw [← hop]
  have HOP := Lib.hid hop
  clear hop hq00 hw
  obtain ⟨hcut, hsrc⟩ := cut_words (ws := kLocals :: r) hw1 (n := 1) (by simp)
  have hlw : (kLocals :: r).length = r.length + 1 := rfl
  rw [hlw] at hcut
  have e1 : (kLocals :: r).drop 1 = r := rfl
  rw [e1] at hsrc
  have e2 : r.length + 1 - 1 = r.length := rfl
  rw [e2] at hcut
  generalize cutA (some ad) 1 1 c0 = ax at hcut hsrc
  have hcut1 : ∀ w', (Instr.slice 39 (.slice (some ad) (r.length + 1) c0) (some (.int .i64 1)) none none).run Tryd.prog w' = .ok (.slice ax r.length (c0 - 1)) w' := hcut
  clear hcut
  generalize c0 - 1 = c1 at hcut1 hsrc
  have hK := rf_kindsOf w1 O ax c1 r hsrc (by omega)
  have hR : lineR UU ⟨i, 4⟩ (kLocals :: r) = match kindsP UU r with
      | some (k :: l) => some ⟨{ i with methods := addLast i.methods fun m => { m with locals := k :: l } }, 5⟩
      | _ => none := by
    unfold lineR
    simp only
    rw [if_neg (by omega), if_neg (fun h => absurd h.1 (by decide)), if_neg (fun h => absurd h.1 (by decide)), if_neg (fun h => absurd h.1 (by decide)), if_pos (by simp)]
    rfl
  have HR := Lib.hid (And.intro hR (And.intro tO h1))
  clear hR hw1 h1 h q1 q2 hsrc tO
  go_wp2_with fail
  refine hK.mono ?_
  rintro e w2 ⟨t2, hk2⟩
  clear hK
  have h2 := HR.out.2.2.tch0 t2
  obtain ⟨vf', vi', vm', ve', q1, q2⟩ := (show PRx w2 b O i 4 from h2).cells
  clear d0 d1 d2 d3 d4 d5 hf
  obtain ⟨d0, d1, d2, d3, d4, d5, hf⟩ := cells6 q1
  have hb2 := heap_lt q1
  unfold KindsTo at hk2
  cases hkp : kindsP UU r with
  | none =>
    rw [hkp] at hk2
    subst hk2
    have hq : lineR UU ⟨i, 4⟩ (kLocals :: r) = none := by rw [HR.out.1, hkp]
    have HQ := Lib.hid hq
    clear hq hkp q1 q2 h2
    go_wp2_with fail
    go_ret
    rw [HQ.out]
    exact RLTo.no rfl (HR.out.2.1.trans t2 (fun _ _ h => h) (by simp))
  | some l =>
    rw [hkp] at hk2
    obtain ⟨v, rfl, hv⟩ := hk2
    obtain ⟨al, cl, rfl⟩ := ownsRow_form hv.1
    by_cases hl0 : l = []
    · subst hl0
      have hq : lineR UU ⟨i, 4⟩ (kLocals :: r) = none := by rw [HR.out.1, hkp]
      have HQ := Lib.hid hq
      clear hq hkp q1 q2 h2 hv
      go_wp2_with fail
      go_ret
      rw [HQ.out]
      exact RLTo.no rfl (HR.out.2.1.trans t2 (fun _ _ h => h) (by simp))
    · obtain ⟨ms, m, hms⟩ := last_of hm0
      obtain ⟨g, cap, vc, hvm, hgl, hgb, _, hgf, ⟨u, hgu⟩, _, _, _, _, hput⟩ := q2.last hb2 hms
      subst hvm
      have hml : i.methods.length = ms.length + 1 := by rw [hms]; simp
      have hd : ((l.length : Int) == 0) = false := by have := List.length_pos_iff.2 hl0; simp; omega
      have hd2 : (l.length == 0) = false := by simp [hl0]
      have hd3 : l.isEmpty = false := by simp [hl0]
      have hq : lineR UU ⟨i, 4⟩ (kLocals :: r) = some ⟨{ i with methods := ms ++ [{ m with locals := l }] }, 5⟩ := by
        rw [HR.out.1, hkp]
        match l, hl0 with
        | k :: l, _ => simp only; rw [hms, addLast_snoc]
      rw [hml] at d3 hsz
      have hRl : RInts w2 O (.slice al l.length cl) l := (hv.src O (fun k hk => Nat.lt_of_lt_of_le (hOl k hk) t1.size))
      have hgf2 := hgf (ms.length * 4 + 2)
      have HX := Lib.hid (And.intro hq (And.intro q1 (And.intro (hput (.slice al l.length cl) l hRl) t2)))
      clear hq hkp hput hv q1 q2 hl0 hm0 hms hml hRl h2 t2
      go_wp2_with fail
      go_region
      all_goals
        have e5 : (w2.setCell ⟨g, ms.length * 4 + 2, none⟩ (.slice al l.length cl)).cell? ⟨b, 5, none⟩ = some (.int .i64 4) := by
          rw [World.cell?_of_block (Below.heap_setCell _ _ _ _ (by exact fun e => hgb e.symm))]; exact d5
        have f5 : (w2.setCell ⟨g, ms.length * 4 + 2, none⟩ (.slice al l.length cl)).frozen? ⟨b, 5, none⟩ = false := by
          rw [World.frozen?_of_block (Below.heap_setCell _ _ _ _ (by exact fun e => hgb e.symm))]; exact hf 5
        go_wp2_with fail
        go_ret
        obtain ⟨hq, q1, ⟨O', g1, g2, g3⟩, t2⟩ := HX.out
        rw [hq]
        have t5 : Tch [b] (w2.setCell ⟨g, ms.length * 4 + 2, none⟩ (.slice al l.length cl)) ((w2.setCell ⟨g, ms.length * 4 + 2, none⟩ (.slice al l.length cl)).setCell ⟨b, 5, none⟩ (.int .i64 5)) := (Tch.refl [b] _).setCell (.inl (by simp)) _
        have hb' : (w2.setCell ⟨g, ms.length * 4 + 2, none⟩ (.slice al l.length cl)).heap[b]? = _ := (Below.heap_setCell _ _ _ _ (by exact fun e => hgb e.symm)).trans q1
        refine RLTo.yes (w1 := w2) rfl (O' := O') (HR.out.2.1.trans t2 (fun _ _ h => h) (by simp)) ⟨vf', vi', .slice (some ⟨g, 0, none⟩) i.methods.length cap, ve', ?_, (g1.setb t5).tch0 ((Tch.refl [] _).drew)⟩ ((g2.trans t5 (fun _ _ h => h) (fun k _ hk => by simp at hk; subst hk; exact hbO)).drew) g3
        exact set7 hb' 5 _
end Go.Proofs.YteebapopeaafhaaDoor
