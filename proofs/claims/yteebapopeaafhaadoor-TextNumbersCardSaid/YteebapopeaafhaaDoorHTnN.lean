/-
  STATEMENT: TextNumbers: which numbers may be: the walk. Conditions: utf8's tables as they are laid; the variable MaxLen holds a number.
-/
import Derived.Test.YteebapopeaafhaaDoorHTnK
import Derived.Test.YteebapopeaafhaaDoorHTnD
import Derived.Test.YteebapopeaafhaaDoorHTy7
import Derived.Test.YteebapopeaafhaaDoorHTx2
import Derived.Test.YteebapopeaafhaaDoorHRfs
import Derived.Laws.Cover4
namespace Go.Tcn
open Go.RowKit
set_option linter.unusedVariables false
set_option linter.unusedSimpArgs false
theorem itoa_len (n : Int) (hn : -9223372036854775808 ≤ n ∧ n ≤ 9223372036854775807) : (Lib.itoa n).length ≤ 32 := by
  rw [digits_doc]
  split
  · have := dec_len 19 n.natAbs (by omega)
    simp only [List.length_cons]; omega
  · have := dec_len 19 (-n).natAbs (by omega)
    omega
/-- A block's cells stay. -/
theorem heap_tch {w w' : World} {b : Nat} {o : Obj} (h : w.heap[b]? = some o) (t : Tch [] w w') : w'.heap[b]? = some o := (t.block b (heap_lt h) (by simp)).trans h
end Go.Tcn
namespace Go.Proofs.YteebapopeaafhaaDoor
open Go.RowKit Go.Tcn
set_option linter.unusedVariables false
set_option linter.unusedSimpArgs false
theorem digs_at (b : Int) : ∃ v : UInt8, ∀ w, (Instr.index 24 (.agg #[.string ⟨#[48]⟩, .string ⟨#[49]⟩, .string ⟨#[50]⟩, .string ⟨#[51]⟩, .string ⟨#[52]⟩, .string ⟨#[53]⟩, .string ⟨#[54]⟩, .string ⟨#[55]⟩, .string ⟨#[56]⟩, .string ⟨#[57]⟩, .string ⟨#[45]⟩, .string ⟨#[43]⟩]) (.int .i64 (b % 12))).run Tryd.prog w = .ok (.string ⟨#[v]⟩) w := by
  have h : b % 12 = 0 ∨ b % 12 = 1 ∨ b % 12 = 2 ∨ b % 12 = 3 ∨ b % 12 = 4 ∨ b % 12 = 5 ∨ b % 12 = 6 ∨ b % 12 = 7 ∨ b % 12 = 8 ∨ b % 12 = 9 ∨ b % 12 = 10 ∨ b % 12 = 11 := by omega
  rcases h with h | h | h | h | h | h | h | h | h | h | h | h
  all_goals rw [h]
  · exact ⟨48, fun _ => by kernel_rfl⟩
  · exact ⟨49, fun _ => by kernel_rfl⟩
  · exact ⟨50, fun _ => by kernel_rfl⟩
  · exact ⟨51, fun _ => by kernel_rfl⟩
  · exact ⟨52, fun _ => by kernel_rfl⟩
  · exact ⟨53, fun _ => by kernel_rfl⟩
  · exact ⟨54, fun _ => by kernel_rfl⟩
  · exact ⟨55, fun _ => by kernel_rfl⟩
  · exact ⟨56, fun _ => by kernel_rfl⟩
  · exact ⟨57, fun _ => by kernel_rfl⟩
  · exact ⟨45, fun _ => by kernel_rfl⟩
  · exact ⟨43, fun _ => by kernel_rfl⟩
set_option maxRecDepth 100000 in
set_option maxHeartbeats 8000000 in
theorem law5_TextNumbers (w : World) (n how : Int) (v : Value) (l : List Int) (hn : I6 n) (hh : I6 how) (h : RInts w [] v l) (hI : ∀ x ∈ l, I6 x) (hm : l.length ≤ 9223372036854775807) (hM : MaxC 2 w) (hV : ValC w) :
    Calls Tryd.prog 3 #[.int .i64 n, .int .i64 how, v] w fun e w' => e = .returned (.bool true) ∧ Tch [] w w' := by
  obtain ⟨a0, c0, rfl⟩ := Src.form h
  go_enter Tryd.func3, Tryd.ntmps3
  go_wp2_with fail
  refine (rf_Digits w n hn).mono ?_
  rintro e w1 ⟨rfl, t1⟩
  have hdl := itoa_len n hn
  generalize Lib.itoa n = dn at *
  go_upto_if 20 with fail
  go_cut [7] (fun s wz => ∃ sd : Wd, sd.length ≤ 32 ∧ s = .string ⟨sd.toArray⟩ ∧ Tch [] w wz)
  case first =>
    cases h3 : (how.tmod 3 == 0)
    · go_wp2_with fail
      go_meet
      exact ⟨dn, hdl, rfl, t1⟩
    · go_wp2_with fail
      go_loopw [7, 8] (fun s i wz => ∃ (k : Nat) (ba : Wd), k ≤ l.length ∧ ba.length = k ∧ k ≤ 13 ∧ s = .string ⟨ba.toArray⟩ ∧ i = .int .i64 k ∧ Tch [] w wz) (fun _ i _ => l.length - (intOf i).toNat)
      case atStart => exact ⟨0, [], by omega, by simp, by omega, rfl, rfl, t1⟩
      case round =>
        obtain ⟨k, ba, hk1, hbl, hk18, rfl, rfl, ht⟩ := hrel
        by_cases hg : k < l.length ∧ k < 13
        · obtain ⟨hk, h18⟩ := hg
          obtain ⟨ad, rfl, _, _, hq⟩ := Src.at (h.tch ht (by simp)) (j := k) (by simpa using hk)
          have hq0 : wr.cell? (ad.add k) = some (.int .i64 l[k]) := by simpa [ints] using hq
          have hx := hI l[k] (List.getElem_mem hk)
          clear hq
          generalize l[k] = x at *
          have h18' : (k : Int) < 13 := by omega
          obtain ⟨rv, hrv⟩ := digs_at x
          have hsz2 : ¬ 9223372036854775807 < ba.length + 1 := by omega
          have hPk := fun w => hand_Pick x 12 hx (by omega) (by omega) w
          go_wp2_with fail
          refine (hPk _).mono ?_
          rintro e w1 ⟨rfl, rfl⟩
          go_wp2_with fail
          go_roundw
          case rel => exact ⟨k + 1, ba ++ [rv], by omega, by simp; omega, by omega, congrArg Value.string (by rw [← str_app]), by go_num, ht⟩
          case measure => simp [intOf]; omega
        · have hcs : ¬ k < l.length ∨ (k < l.length ∧ ¬ (k : Int) < 13 ∧ ¬ k < 13) := by omega
          rcases hcs with d1 | ⟨d1, d2, d3⟩
          · go_wp2_with fail
            go_meet
            exact ⟨ba, by omega, rfl, ht⟩
          · go_wp2_with fail
            go_meet
            exact ⟨ba, by omega, rfl, ht⟩
  case rest =>
    obtain ⟨sd, hsl, rfl, ht⟩ := hcut
    clear t1 hI hm h
    clear hdl
    go_upto_region 8 with fail
    go_cut [7, 9] (fun s t wz => ∃ td : Wd, s = .string ⟨sd.toArray⟩ ∧ t = .string ⟨td.toArray⟩ ∧ td.length < 4294967281 ∧ Tch [] w wz)
    case first =>
      have hsl2 : (9223372036854775807 : Nat) < 26 + sd.length ↔ False := ⟨fun h => by omega, False.elim⟩
      have hsl3 : (9223372036854775807 : Nat) < 26 + sd.length + 9 ↔ False := ⟨fun h => by omega, False.elim⟩
      go_wp2_with fail
      go_meet
      exact ⟨[97, 112, 112, 108, 101, 116, 32, 97, 10, 109, 101, 116, 104, 111, 100, 32, 110, 111, 110, 101, 10, 112, 117, 115, 104, 32] ++ sd ++ [10, 112, 111, 112, 10, 114, 101, 116, 10], rfl, congrArg Value.string (by rw [← str_app, ← str_app]), by simp; omega, ht⟩
    case rest =>
    obtain ⟨td, rfl, rfl, htl, ht⟩ := hcut
    have M0 := hM.tch ht
    have V0 : ValC wc := fun nm w' h16 t' => hV nm w' h16 (ht.then t')
    obtain ⟨m, hm⟩ := M0
    have hp := tx_Parse wc td htl m hm V0
    rw [parse_same] at hp
    have hr := fun (wx : World) (t : Tch [] wc wx) => rf_Parse wx td htl (fun nm w' h16 t' => V0 nm w' h16 (t.then t'))
    have hk := fun (wx : World) (t : Tch [] wc wx) => t5_known wx (MaxC.tch ⟨m, hm⟩ t) (fun nm w' h16 t' => V0 nm w' h16 (t.then t'))
    clear V0 hm hM hV htl
    generalize parseW td = R at *
    obtain ⟨X, rn, re⟩ := R
    go_upto_region 9 with fail
    go_wp2_with fail
    refine hp.mono ?_
    rintro e w2 ⟨vf, vi, vm, ve, rfl, i1, i2, i3, i4, zX0, t2⟩
    have zX : ImgZ X := zX0
    replace i1 : RInts w2 [] vf X.fields := i1
    replace i2 : RImps w2 [] vi X.imports := i2
    replace i3 : RMths w2 [] vm X.methods := i3
    replace i4 : RInts w2 [] ve X.exports := i4
    clear hp
    obtain ⟨af, cf, rfl⟩ := Src.form i1
    obtain ⟨ai, ci, rfl⟩ := RImps.form i2
    obtain ⟨am, cm, rfl⟩ := RMths.form i3
    obtain ⟨ae, ce, rfl⟩ := Src.form i4
    obtain ⟨W, hW⟩ : ∃ W, W = w2.alloc (.cells #[.string ⟨X.name.toArray⟩, .slice af X.fields.length cf, .slice ai X.imports.length ci, .slice am X.methods.length cm, .slice ae X.exports.length ce] 29) := ⟨_, rfl⟩
    have t3 : Tch [] w2 W := by rw [hW]; exact (Tch.refl [] w2).alloc _
    have hb : W.heap[w2.heap.size]? = some (.cells #[.string ⟨X.name.toArray⟩, .slice af X.fields.length cf, .slice ai X.imports.length ci, .slice am X.methods.length cm, .slice ae X.exports.length ce] 29 (0, 0)) := by rw [hW]; exact heap_alloc_new _ _
    go_upto_region 10 with fail
    rw [← hW]
    clear hW
    generalize w2.heap.size = b1 at *
    have T3 := t2.then t3
    go_wp2_with fail
    refine (hr W T3).mono ?_
    rintro e w4 ⟨yf, yi, ym, ye, rfl, j1, j2, j3, j4, zY, t4⟩
    replace j1 : RInts w4 [] yf X.fields := j1
    replace j2 : RImps w4 [] yi X.imports := j2
    replace j3 : RMths w4 [] ym X.methods := j3
    replace j4 : RInts w4 [] ye X.exports := j4
    clear hr
    obtain ⟨bf, df, rfl⟩ := Src.form j1
    obtain ⟨bi, di, rfl⟩ := RImps.form j2
    obtain ⟨bm, dm, rfl⟩ := RMths.form j3
    obtain ⟨be, de, rfl⟩ := Src.form j4
    obtain ⟨V, hVd⟩ : ∃ V, V = w4.alloc (.cells #[.string ⟨X.name.toArray⟩, .slice bf X.fields.length df, .slice bi X.imports.length di, .slice bm X.methods.length dm, .slice be X.exports.length de] 29) := ⟨_, rfl⟩
    have t5 : Tch [] w4 V := by rw [hVd]; exact (Tch.refl [] w4).alloc _
    have hc : V.heap[w4.heap.size]? = some (.cells #[.string ⟨X.name.toArray⟩, .slice bf X.fields.length df, .slice bi X.imports.length di, .slice bm X.methods.length dm, .slice be X.exports.length de] 29 (0, 0)) := by rw [hVd]; exact heap_alloc_new _ _
    go_upto_region 11 with fail
    rw [← hVd]
    clear hVd
    generalize w4.heap.size = b2 at *
    have T5 := T3.then (t4.then t5)
    go_wp2_with fail
    refine (hk V T5).mono ?_
    rintro e w6 ⟨rfl, t6⟩
    clear hk
    have T6 := T5.then t6
    have u3 := (t3.then (t4.then t5)).then t6
    have u5 := t5.then t6
    obtain ⟨x0, x1, x2, x3, x4, _⟩ := cells5 (heap_tch (heap_tch hb (t4.then t5)) t6)
    obtain ⟨y0, y1, y2, y3, y4, _⟩ := cells5 (heap_tch hc t6)
    have hS := rf_Same w6 X X _ _ _ _ _ _ _ _ (i1.tch u3 (by simp)) (i2.tch u3 (by simp)) (i3.tch u3 (by simp)) (i4.tch u3 (by simp)) (j1.tch u5 (by simp)) (j2.tch u5 (by simp)) (j3.tch u5 (by simp)) (j4.tch u5 (by simp)) zX zX
    have hd : decide (X = X) = true := decide_eq_true rfl
    rw [hd] at hS
    clear hb hc i1 i2 i3 i4 j1 j2 j3 j4 t2 t3 t4 t5 T3 T5 u3 u5 zX zY
    go_wp2_with fail
    refine hS.mono ?_
    rintro e w7 ⟨rfl, t7⟩
    have T7 := ht.then (T6.then t7)
    clear hS x0 x1 x2 x3 x4 y0 y1 y2 y3 y4
    go_wp2_with fail
    refine (tx_Kind w7 sd).mono ?_
    rintro e w8 ⟨rfl, rfl⟩
    go_wp2_with fail
    refine (rf_Kind w7 sd).mono ?_
    rintro e w8 ⟨rfl, rfl⟩
    go_wp2_with fail
    go_ret
    exact ⟨rfl, T7⟩
end Go.Proofs.YteebapopeaafhaaDoor
