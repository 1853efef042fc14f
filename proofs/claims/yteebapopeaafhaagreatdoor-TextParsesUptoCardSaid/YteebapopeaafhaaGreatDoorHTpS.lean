/-
  STATEMENT: TextParses: any text is an applet, or refused at a line, as the document says: the walk. Conditions: utf8's tables and the bins as they are laid; the variable MaxLen holds a number; the raw statements fit in memory; the raw text is shorter than 4294967281 bytes.
-/
import Derived.Test.YteebapopeaafhaaGreatDoorHTpA
import Derived.Test.YteebapopeaafhaaGreatDoorHTpH
import Derived.Test.YteebapopeaafhaaGreatDoorHDp1
import Derived.Test.YteebapopeaafhaaGreatDoorHTnK
import Derived.Test.YteebapopeaafhaaGreatDoorHTy7
import Derived.Test.YteebapopeaafhaaGreatDoorHRfs
namespace Go.Proofs.YteebapopeaafhaaGreatDoor
open Go.RowKit Go.Tcn
set_option linter.unusedVariables false
set_option linter.unusedSimpArgs false
set_option maxRecDepth 100000 in
theorem turn_at (b : Int) (hb : 0 ≤ b ∧ b ≤ 10) : ∃ wt : Wd, wt.length ≤ 2 ∧ ∀ w : World, (Instr.index 60 (.agg #[.string ⟨#[32]⟩, .string ⟨#[10]⟩, .string ⟨#[35]⟩, .string ⟨#[45]⟩, .string ⟨#[48]⟩, .string ⟨#[10, 10]⟩, .string ⟨#[32, 32]⟩, .string ⟨#[97]⟩, .string ⟨#[255]⟩, .string ⟨#[195, 169]⟩, .string ⟨#[]⟩]) (.int .i64 b)).run Tryz.prog w = .ok (.string ⟨wt.toArray⟩) w := by
  have h : b = 0 ∨ b = 1 ∨ b = 2 ∨ b = 3 ∨ b = 4 ∨ b = 5 ∨ b = 6 ∨ b = 7 ∨ b = 8 ∨ b = 9 ∨ b = 10 := by omega
  rcases h with rfl | rfl | rfl | rfl | rfl | rfl | rfl | rfl | rfl | rfl | rfl
  · exact ⟨[32], by decide, fun _ => by kernel_rfl⟩
  · exact ⟨[10], by decide, fun _ => by kernel_rfl⟩
  · exact ⟨[35], by decide, fun _ => by kernel_rfl⟩
  · exact ⟨[45], by decide, fun _ => by kernel_rfl⟩
  · exact ⟨[48], by decide, fun _ => by kernel_rfl⟩
  · exact ⟨[10, 10], by decide, fun _ => by kernel_rfl⟩
  · exact ⟨[32, 32], by decide, fun _ => by kernel_rfl⟩
  · exact ⟨[97], by decide, fun _ => by kernel_rfl⟩
  · exact ⟨[255], by decide, fun _ => by kernel_rfl⟩
  · exact ⟨[195, 169], by decide, fun _ => by kernel_rfl⟩
  · exact ⟨[], by decide, fun _ => by kernel_rfl⟩
set_option maxRecDepth 100000 in
set_option maxHeartbeats 8000000 in
theorem t5_turned (w : World) (s : Wd) (hs : s.length ≤ 1000000) (v : Value) (l : List Int) (h : RInts w [] v l) (hIn : ∀ x ∈ l, I6 x) (hnl : l.length ≤ 9223372036854775807) :
    Calls Tryz.prog 10 #[.string ⟨s.toArray⟩, v] w fun e w' => ∃ s' : Wd, e = .returned (.string ⟨s'.toArray⟩) ∧ s'.length ≤ 1000100 ∧ Tch [] w w' := by
  obtain ⟨an, cn, rfl⟩ := Src.form h
  go_enter Tryz.func10, Tryz.ntmps10
  go_wp2_with fail
  go_loopw [0, 5] (fun sv iv wz => ∃ (j : Nat) (ba : Wd), j ≤ l.length ∧ j ≤ 4 ∧ ba.length ≤ 1000000 + 2 * j ∧ sv = .string ⟨ba.toArray⟩ ∧ iv = .int .i64 j ∧ Tch [] w wz) (fun _ iv _ => l.length - (intOf iv).toNat)
  case atStart => exact ⟨0, s, by omega, by omega, by omega, rfl, rfl, Tch.refl [] w⟩
  case round =>
    obtain ⟨j, ba, hj1, hj4, hbl, rfl, rfl, ht⟩ := hrel
    by_cases hg : j < l.length ∧ j < 4 ∧ 0 < ba.length
    · obtain ⟨hj, hj5, hb0⟩ := hg
      obtain ⟨ad, rfl, _, _, hq⟩ := Src.at (h.tch ht (by simp)) (j := j) (by simpa using hj)
      have hq0 : wr.cell? (ad.add j) = some (.int .i64 l[j]) := by simpa [ints] using hq
      have hx := hIn l[j] (List.getElem_mem hj)
      clear hq
      generalize l[j] = x at *
      have hj5' : (j : Int) < 4 := by omega
      have hb0' : decide ((0 : Int) < (ba.length : Int)) = true := decide_eq_true (by omega)
      have hw1 : I6 (wrap64 (x.tdiv 11)) := @wrap64_I6 ⟨true, []⟩ _
      have hw2 : I6 (wrap64 (x.tdiv 3)) := @wrap64_I6 ⟨true, []⟩ _
      have hP1 := hand_Pick (wrap64 (x.tdiv 11)) ba.length hw1 (by omega) (by omega) wr
      obtain ⟨n, hn, hnl2⟩ : ∃ n : Nat, wrap64 (x.tdiv 11) % (ba.length : Int) = n ∧ n < ba.length := by
        have e1 := Int.emod_nonneg (wrap64 (x.tdiv 11)) (show (ba.length : Int) ≠ 0 by omega)
        have e2 := Int.emod_lt_of_pos (wrap64 (x.tdiv 11)) (show (0 : Int) < (ba.length : Int) by omega)
        exact ⟨(wrap64 (x.tdiv 11) % (ba.length : Int)).toNat, by omega, by omega⟩
      rw [hn] at hP1
      have hP2 := hand_Pick x 11 hx (by omega) (by omega) wr
      obtain ⟨xm, hxm, hxm0⟩ : ∃ b : Int, x % 11 = b ∧ 0 ≤ b ∧ b ≤ 10 := ⟨_, rfl, by omega, by omega⟩
      rw [hxm] at hP2
      obtain ⟨wt, hwl, hwt⟩ := turn_at xm hxm0
      have hP3 := fun w => hand_Pick (wrap64 (x.tdiv 3)) 2 hw2 (by omega) (by omega) w
      obtain ⟨d, hd, hd1⟩ : ∃ d : Nat, wrap64 (x.tdiv 3) % 2 = d ∧ d ≤ 1 := ⟨(wrap64 (x.tdiv 3) % 2).toNat, by omega, by omega⟩
      rw [hd] at hP3
      clear hn hxm hd hw1 hw2 hxm0
      go_wp2_with fail
      refine hP1.mono ?_
      rintro e w5 ⟨rfl, rfl⟩
      go_wp2_with fail
      refine hP2.mono ?_
      rintro e w5 ⟨rfl, rfl⟩
      clear hP1 hP2
      have ex1 : (⟨ba.toArray⟩ : ByteArray).extract 0 n = ⟨(ba.take n).toArray⟩ := take_str ba n (by omega)
      have ex2 : (⟨ba.toArray⟩ : ByteArray).extract (n + d) ba.length = ⟨(ba.drop (n + d)).toArray⟩ := drop_str ba (n + d)
      have htl : (ba.take n).length = n := by rw [List.length_take]; omega
      have hdl : (ba.drop (n + d)).length = ba.length - (n + d) := List.length_drop
      have g1 : ¬ 9223372036854775807 < n + wt.length := by omega
      have g2 : ¬ 9223372036854775807 < n + wt.length + (ba.length - (n + d)) := by omega
      go_wp2_with fail
      go_quiet ((go_at_call 16; exact Calls.quiet_of_same ((hP3 _).mono fun _ _ h => ⟨h.1, h.2.symm⟩)))
      have hq := ht.drewN nq
      generalize wr.drewN nq = wq at *
      go_wp2_with fail
      go_roundw
      case rel => exact ⟨j + 1, ba.take n ++ wt ++ ba.drop (n + d), by omega, by omega, by simp only [List.length_append, htl, hdl]; omega, congrArg Value.string (by rw [← str_app, ← str_app]), by go_num, hq⟩
      case measure => simp [intOf]; omega
    · have hcs : ¬ j < l.length ∨ (j < l.length ∧ ¬ (j : Int) < 4 ∧ ¬ j < 4) ∨ (j < l.length ∧ (j : Int) < 4 ∧ j < 4 ∧ ba.length = 0) := by omega
      rcases hcs with d1 | ⟨d1, d2, d3⟩ | ⟨d1, d2, d3, d4⟩
      · go_wp2_with fail
        go_ret
        exact ⟨ba, rfl, by omega, ht⟩
      · go_wp2_with fail
        go_ret
        exact ⟨ba, rfl, by omega, ht⟩
      · have hnil : ba = [] := List.length_eq_zero_iff.1 d4
        subst hnil
        go_wp2_with fail
        go_ret
        exact ⟨[], rfl, by simp, ht⟩
set_option maxRecDepth 100000 in
set_option maxHeartbeats 8000000 in
theorem law5_TextParses (w : World) (hG : Bins w 2) (k : Int) (hk : I6 k) (xv : Value) (l : List Rw) (hl : Raws w xv l) (hll : l.length ≤ 5000000000000) (hcap : ∀ ao n c, xv = .slice ao n c → n ≤ c) (raw : Wd) (hraw : raw.length < 4294967281) (any : Bool) (v : Value) (at0 : List Int) (h : RInts w [] v at0) (hIn : ∀ x ∈ at0, I6 x) (hnl : at0.length ≤ 9223372036854775807) (hM : MaxC 3 w) (hV : ValC w) :
    Calls Tryz.prog 3 #[.int .i64 k, xv, .string ⟨raw.toArray⟩, .bool any, v] w fun e w' => e = .returned (.bool true) ∧ Tch [] w w' := by
  have hAp := hand_AppX w hG k hk xv l hl hll hcap [] (by simp)
  obtain ⟨aox, nx, capx, hxv⟩ : ∃ ao n c, xv = .slice ao n c := by
    obtain ⟨ao, c, h, _⟩ := hl.ex
    exact ⟨ao, _, c, h⟩
  subst hxv
  obtain ⟨an, cn, rfl⟩ := Src.form h
  clear hG hl hll hcap
  go_enter Tryz.func3, Tryz.ntmps3
  go_upto_if 22 with fail
  go_cut [11] (fun sv wz => ∃ td : Wd, sv = .string ⟨td.toArray⟩ ∧ td.length < 4294967281 ∧ Tch [] w wz)
  case first =>
    cases any
    · go_wp2_with fail
      refine hAp.mono ?_
      rintro e w1 ⟨i, vf, vi, vm, ve, rfl, r1, r2, r3, r4, hz, hb, hm3, hcod, t1⟩
      have hB := rf_Print w1 i _ _ _ _ r1 r2 r3 r4 hz (hV.tch' t1)
      rw [prRes_yes hb] at hB
      clear hAp hm3 hcod r1 r2 r3 r4 hz
      go_wp2_with fail
      refine hB.mono ?_
      rintro e w2 ⟨rfl, hsl, t2⟩
      replace hsl := hsl hb
      have T2 := t1.then t2
      have hT := t5_turned w2 (printW i) hsl _ at0 (h.tch T2 (by simp)) hIn hnl
      clear hB hb t1 t2 hsl
      generalize printW i = s at *
      go_wp2_with fail
      refine hT.mono ?_
      rintro e w3 ⟨s', rfl, hs', t3⟩
      clear hT
      go_wp2_with fail
      go_meet
      exact ⟨s', rfl, by omega, T2.then t3⟩
    · go_wp2_with fail
      go_meet
      exact ⟨raw, rfl, hraw, Tch.refl [] w⟩
  case rest =>
    obtain ⟨td, rfl, htl, ht⟩ := hcut
    clear h hIn hAp
    have M0 := hM.tch ht
    have V0 : ValC wc := fun nm w' h16 t' => hV nm w' h16 (ht.then t')
    obtain ⟨m, hm⟩ := M0
    have hp := tx_Parse wc td htl m hm V0
    rw [parse_same] at hp
    have hr := fun (wx : World) (t : Tch [] wc wx) => rf_Parse wx td htl (fun nm w' h16 t' => V0 nm w' h16 (t.then t'))
    have hk := fun (wx : World) (t : Tch [] wc wx) => t5_known wx (MaxC.tch ⟨m, hm⟩ t) (fun nm w' h16 t' => V0 nm w' h16 (t.then t'))
    clear V0 hm hM hV htl
    generalize parseW td = R at *
    obtain ⟨X, rn, re⟩ := R
    go_upto_region 6 with fail
    go_wp2_with fail
    refine hp.mono ?_
    rintro e w2 ⟨vf, vi, vm, ve, rfl, i1, i2, i3, i4, zX0, t2⟩
    have zX : ImgZ X := zX0
    replace i1 : RInts w2 [] vf X.fields := i1
    replace i2 : RImps w2 [] vi X.imports := i2
    replace i3 : RMths w2 [] vm X.methods := i3
    replace i4 : RInts w2 [] ve X.exports := i4
    clear hp
    obtain ⟨af, cf, rfl⟩ := Src.form i1
    obtain ⟨ai, ci, rfl⟩ := RImps.form i2
    obtain ⟨am, cm, rfl⟩ := RMths.form i3
    obtain ⟨ae, ce, rfl⟩ := Src.form i4
    obtain ⟨W, hW⟩ : ∃ W, W = w2.alloc (.cells #[.string ⟨X.name.toArray⟩, .slice af X.fields.length cf, .slice ai X.imports.length ci, .slice am X.methods.length cm, .slice ae X.exports.length ce] 30) := ⟨_, rfl⟩
    have t3 : Tch [] w2 W := by rw [hW]; exact (Tch.refl [] w2).alloc _
    have hb : W.heap[w2.heap.size]? = some (.cells #[.string ⟨X.name.toArray⟩, .slice af X.fields.length cf, .slice ai X.imports.length ci, .slice am X.methods.length cm, .slice ae X.exports.length ce] 30 (0, 0)) := by rw [hW]; exact heap_alloc_new _ _
    go_upto_region 7 with fail
    rw [← hW]
    clear hW
    generalize w2.heap.size = b1 at *
    have T3 := t2.then t3
    go_wp2_with fail
    refine (hr W T3).mono ?_
    rintro e w4 ⟨yf, yi, ym, ye, rfl, j1, j2, j3, j4, zY, t4⟩
    replace j1 : RInts w4 [] yf X.fields := j1
    replace j2 : RImps w4 [] yi X.imports := j2
    replace j3 : RMths w4 [] ym X.methods := j3
    replace j4 : RInts w4 [] ye X.exports := j4
    clear hr
    obtain ⟨bf, df, rfl⟩ := Src.form j1
    obtain ⟨bi, di, rfl⟩ := RImps.form j2
    obtain ⟨bm, dm, rfl⟩ := RMths.form j3
    obtain ⟨be, de, rfl⟩ := Src.form j4
    obtain ⟨V, hVd⟩ : ∃ V, V = w4.alloc (.cells #[.string ⟨X.name.toArray⟩, .slice bf X.fields.length df, .slice bi X.imports.length di, .slice bm X.methods.length dm, .slice be X.exports.length de] 30) := ⟨_, rfl⟩
    have t5 : Tch [] w4 V := by rw [hVd]; exact (Tch.refl [] w4).alloc _
    have hc : V.heap[w4.heap.size]? = some (.cells #[.string ⟨X.name.toArray⟩, .slice bf X.fields.length df, .slice bi X.imports.length di, .slice bm X.methods.length dm, .slice be X.exports.length de] 30 (0, 0)) := by rw [hVd]; exact heap_alloc_new _ _
    go_upto_region 8 with fail
    rw [← hVd]
    clear hVd
    generalize w4.heap.size = b2 at *
    have T5 := T3.then (t4.then t5)
    go_wp2_with fail
    refine (hk V T5).mono ?_
    rintro e w6 ⟨rfl, t6⟩
    clear hk
    have T6 := T5.then t6
    have u3 := (t3.then (t4.then t5)).then t6
    have u5 := t5.then t6
    obtain ⟨x0, x1, x2, x3, x4, _⟩ := cells5 (heapT (heapT hb (t4.then t5)) t6)
    obtain ⟨y0, y1, y2, y3, y4, _⟩ := cells5 (heapT hc t6)
    have hS := rf_Same w6 X X _ _ _ _ _ _ _ _ (i1.tch u3 (by simp)) (i2.tch u3 (by simp)) (i3.tch u3 (by simp)) (i4.tch u3 (by simp)) (j1.tch u5 (by simp)) (j2.tch u5 (by simp)) (j3.tch u5 (by simp)) (j4.tch u5 (by simp)) zX zX
    have hd : decide (X = X) = true := decide_eq_true rfl
    rw [hd] at hS
    clear hb hc i1 i2 i3 i4 j1 j2 j3 j4 t2 t3 t4 t5 T3 T5 u3 u5 zX zY
    go_wp2_with fail
    refine hS.mono ?_
    rintro e w7 ⟨rfl, t7⟩
    have T7 := ht.then (T6.then t7)
    clear hS x0 x1 x2 x3 x4 y0 y1 y2 y3 y4
    go_wp2_with fail
    go_ret
    exact ⟨rfl, T7⟩
end Go.Proofs.YteebapopeaafhaaGreatDoor
