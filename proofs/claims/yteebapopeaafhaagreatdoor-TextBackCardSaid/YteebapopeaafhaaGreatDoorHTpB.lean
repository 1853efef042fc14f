/-
  STATEMENT: TextBack: what is printed is parsed to the same, with notes, blanks and empty lines between, too: the walk. Conditions: utf8's tables and the bins as they are laid; strconv.Itoa's contract; the variable MaxLen holds a number; the raw statements fit in memory.
-/
import Derived.Test.YteebapopeaafhaaGreatDoorHTpP
import Derived.Test.YteebapopeaafhaaGreatDoorHTpQ
import Derived.Test.YteebapopeaafhaaGreatDoorHImx
namespace Go.Proofs.YteebapopeaafhaaGreatDoor
open Go.RowKit Go.Tcn
set_option linter.unusedVariables false
set_option linter.unusedSimpArgs false
set_option maxRecDepth 100000 in
theorem nots_at (b : Int) (hb : 0 ≤ b ∧ b ≤ 3) : ∀ w : World, (Instr.index 48 (.agg #[.string ⟨#[]⟩, .string ⟨#[10]⟩, .string ⟨#[32, 32, 35, 32, 110, 111, 116, 101, 10]⟩, .string ⟨#[32, 32, 32]⟩]) (.int .i64 b)).run Tryz.prog w = .ok (.string ⟨(noteW b).toArray⟩) w := by
  have h : b = 0 ∨ b = 1 ∨ b = 2 ∨ b = 3 := by omega
  rcases h with rfl | rfl | rfl | rfl
  all_goals exact fun _ => by kernel_rfl
set_option maxRecDepth 100000 in
set_option maxHeartbeats 8000000 in
theorem law5_TextBack (w : World) (hG : Bins w 2) (k : Int) (hk : I6 k) (xv : Value) (l : List Rw) (hl : Raws w xv l) (hll : l.length ≤ 5000000000000) (hcap : ∀ ao n c, xv = .slice ao n c → n ≤ c) (v : Value) (notes : List Int) (h : RInts w [] v notes) (hIn : ∀ x ∈ notes, I6 x) (hnl : notes.length ≤ 9223372036854775807) (hM : MaxC 3 w) (hV : ValC w) (hI : ItoC Tryz.prog 37 w) :
    Calls Tryz.prog 7 #[.int .i64 k, xv, v] w fun e w' => e = .returned (.bool true) ∧ Tch [] w w' := by
  have hAp := hand_AppX w hG k hk xv l hl hll hcap [] (by simp)
  obtain ⟨aox, nx, capx, hxv⟩ : ∃ ao n c, xv = .slice ao n c := by
    obtain ⟨ao, c, h, _⟩ := hl.ex
    exact ⟨ao, _, c, h⟩
  subst hxv
  obtain ⟨an, cn, rfl⟩ := Src.form h
  clear hG hl hll hcap
  go_enter Tryz.func7, Tryz.ntmps7
  go_wp2_with fail
  refine hAp.mono ?_
  rintro e w1 ⟨i, vf, vi, vm, ve, rfl, r1, r2, r3, r4, hz, hb, hm3, hcod, t1⟩
  clear hAp hm3 hcod
  obtain ⟨af, cf, rfl⟩ := Src.form r1
  obtain ⟨ai, ci, rfl⟩ := RImps.form r2
  obtain ⟨am, cm, rfl⟩ := RMths.form r3
  obtain ⟨ae, ce, rfl⟩ := Src.form r4
  obtain ⟨W, hW⟩ : ∃ W, W = w1.alloc (.cells #[.string ⟨i.name.toArray⟩, .slice af i.fields.length cf, .slice ai i.imports.length ci, .slice am i.methods.length cm, .slice ae i.exports.length ce] 30) := ⟨_, rfl⟩
  have tW : Tch [] w1 W := by rw [hW]; exact (Tch.refl [] w1).alloc _
  have hX : W.heap[w1.heap.size]? = some (.cells #[.string ⟨i.name.toArray⟩, .slice af i.fields.length cf, .slice ai i.imports.length ci, .slice am i.methods.length cm, .slice ae i.exports.length ce] 30 (0, 0)) := by rw [hW]; exact heap_alloc_new _ _
  have T1 := t1.then tW
  replace r1 := r1.tch tW (by simp)
  replace r2 := r2.tch tW (by simp)
  replace r3 := r3.tch tW (by simp)
  replace r4 := r4.tch tW (by simp)
  go_upto_region 2 with fail
  rw [← hW]
  clear hW
  generalize w1.heap.size = g at *
  have hA := tx_Print W i _ _ _ _ r1 r2 r3 r4 hz (hV.tch' T1) (hI.tch T1)
  rw [prRes_yes hb] at hA
  have hten := (img_lns i hb).out.2
  have HT := Lib.hid (notes_back i hb (notes.map fun x => x % 4))
  have HS : Hid (printW i = textOf (imgLs i)) := Lib.hid rfl
  have hX0 := cellsI hX (Tch.refl [] W)
  clear t1 tW
  go_wp2_with (first | (refine wpList_load_agg rfl 30 (.tmp 7) rfl ⟨g, 0, none⟩ rfl #[.string ⟨i.name.toArray⟩, .slice af i.fields.length cf, .slice ai i.imports.length ci, .slice am i.methods.length cm, .slice ae i.exports.length ce] _ hX0 Tryz.underlying30 rfl (by kernel_rfl) ?_) | fail)
  refine hA.mono ?_
  rintro e w2 ⟨rfl, hsl, t2⟩
  replace hsl := hsl hb
  clear hA hb hX0
  generalize imgLs i = ls at *
  generalize printW i = s at *
  have T2 := T1.then t2
  have hK := t5_known w2 (hM.tch T2) (hV.tch' T2)
  go_wp2_with fail
  refine hK.mono ?_
  rintro e w3 ⟨rfl, t3⟩
  have T3 := T2.then t3
  have t23 := t2.then t3
  have M3 := hM.tch T3
  have V3 := hV.tch' T3
  replace hX := heapT hX t23
  replace r1 := r1.tch t23 (by simp)
  replace r2 := r2.tch t23 (by simp)
  replace r3 := r3.tch t23 (by simp)
  replace r4 := r4.tch t23 (by simp)
  replace h := h.tch T3 (by simp)
  clear hK T1 T2 t2 t3 t23 hM hV hI
  go_wp2_with fail
  have HNS : Hid (∀ (n : Nat) (hn : n < notes.length), noteAt (notes.map fun x => x % 4) n = noteW (notes[n] % 4)) := Lib.hid (fun n hn => by rw [noteAt_yes (by simpa using hn)]; simp)
  have HNO : Hid (∀ (n : Nat), ¬ n < notes.length → noteAt (notes.map fun x => x % 4) n = []) := Lib.hid (fun n hn => noteAt_no (by simpa using hn))
  generalize (notes.map fun x => x % 4) = ns at *
  go_loopw [10, 11, 12] (fun ov nv iv wz => ∃ j : Nat, j ≤ s.length ∧ ov = .string ⟨(notW ns (s.take j)).1.toArray⟩ ∧ nv = .int .i64 ((notW ns (s.take j)).2 : Nat) ∧ iv = .int .i64 j ∧ w3 = wz) (fun _ _ iv _ => s.length - (intOf iv).toNat)
  case atStart => exact ⟨0, by omega, rfl, rfl, rfl, rfl⟩
  case round =>
    obtain ⟨j, hj1, rfl, rfl, rfl, rfl⟩ := hrel
    by_cases hj : j < s.length
    · obtain ⟨c, hc⟩ : ∃ c, s[j] = c := ⟨_, rfl⟩
      have hgk : ∀ h, (⟨s.toArray⟩ : ByteArray)[j]'h = c := fun _ => hc
      have hgl : ∀ h, s[j]'h = c := fun _ => hc
      have hex : (⟨s.toArray⟩ : ByteArray).extract j (j + 1) = ⟨[c].toArray⟩ := one_byte s j c hj hc
      have htk : s.take (j + 1) = s.take j ++ [c] := by rw [← hc]; exact (List.take_append_getElem hj).symm
      have HC := Lib.hid (show notW ns (s.take (j + 1)) = notS ns (notW ns (s.take j)) c by rw [htk]; exact notW_snoc _ _ c)
      obtain ⟨hcl, hcn⟩ := notW_len ns (s.take j)
      rw [List.length_take] at hcl hcn
      clear htk hc
      obtain ⟨ob, nb, hp⟩ : ∃ ob nb, notW ns (s.take j) = (ob, nb) := ⟨_, _, rfl⟩
      rw [hp] at HC hcl hcn ⊢
      clear hp
      simp only at hcl hcn
      have g1 : ¬ 9223372036854775807 < ob.length + 1 := by omega
      by_cases h10 : c = 10
      · have hc10 : ((c.toNat : Int) == 10) = true := by subst h10; decide
        by_cases hn : nb < notes.length
        · obtain ⟨ad, rfl, _, _, hq⟩ := Src.at h (j := nb) (by simpa using hn)
          have hq0 : w3.cell? (ad.add nb) = some (.int .i64 notes[nb]) := by simpa [ints] using hq
          have hx := hIn notes[nb] (List.getElem_mem hn)
          have HE := Lib.hid (show notS ns (ob, nb) c = (ob ++ [c] ++ noteW (notes[nb] % 4), nb + 1) by rw [← HNS.out nb hn]; simp [notS, h10])
          clear hq h10
          generalize notes[nb] = x at *
          have hPk := hand_Pick x 4 hx (by omega) (by omega) w3
          have hna := nots_at (x % 4) ⟨by omega, by omega⟩
          have hnw := noteW_len (x % 4)
          generalize noteW (x % 4) = nt at *
          generalize x % 4 = xm at *
          have g2 : ¬ 9223372036854775807 < ob.length + 1 + nt.length := by omega
          have hd : decide ((nb : Int) < (notes.length : Int)) = true := decide_eq_true (by omega)
          go_wp2_with fail
          refine hPk.mono ?_
          rintro e w5 ⟨rfl, rfl⟩
          go_wp2_with fail
          go_roundw
          case rel => exact ⟨j + 1, by omega, congrArg Value.string (by rw [HC.out, HE.out, ← str_app, ← str_app]), by rw [HC.out, HE.out]; go_num, by go_num, by first | rfl | trivial⟩
          case measure => simp [intOf]; omega
        · have hd : decide ((nb : Int) < (notes.length : Int)) = false := decide_eq_false (by omega)
          have HE := Lib.hid (show notS ns (ob, nb) c = (ob ++ [c], nb + 1) by simp [notS, h10, HNO.out nb hn])
          clear h10
          go_wp2_with fail
          go_roundw
          case rel => exact ⟨j + 1, by omega, congrArg Value.string (by rw [HC.out, HE.out, ← str_app]), by rw [HC.out, HE.out]; go_num, by go_num, by first | rfl | trivial⟩
          case measure => simp [intOf]; omega
      · have hc10 : ((c.toNat : Int) == 10) = false := by
          have : c.toNat ≠ 10 := fun e => h10 (UInt8.toNat_inj.1 e)
          simp; omega
        have HE := Lib.hid (show notS ns (ob, nb) c = (ob ++ [c], nb) by simp [notS, h10])
        clear h10
        go_wp2_with fail
        go_roundw
        case rel => exact ⟨j + 1, by omega, congrArg Value.string (by rw [HC.out, HE.out, ← str_app]), by rw [HC.out, HE.out], by go_num, by first | rfl | trivial⟩
        case measure => simp [intOf]; omega
    · have hke : s.take j = s := List.take_of_length_le (by omega)
      rw [hke]
      obtain ⟨hcl, _⟩ := notW_len ns s
      obtain ⟨mm, hmm⟩ := M3
      have hp := tx_Parse w3 (notW ns s).1 (by omega) mm hmm V3
      have hF : (notW ns s).1 = textN ls ns := by rw [HS.out]; exact notW_text ns ls hten
      rw [show parseX (notW ns s).1 = (i, 0, 0) by rw [hF]; exact HT.out] at hp
      clear hke hcl hF hmm V3 HT HS hten HNS HNO
      generalize (notW ns s).1 = out at *
      generalize (notW ns s).2 = nout at *
      go_wp2_with fail
      refine hp.mono ?_
      rintro e w4 ⟨vf, vi, vm, ve, rfl, i1, i2, i3, i4, zj, t4⟩
      replace i1 : RInts w4 [] vf i.fields := i1
      replace i2 : RImps w4 [] vi i.imports := i2
      replace i3 : RMths w4 [] vm i.methods := i3
      replace i4 : RInts w4 [] ve i.exports := i4
      clear hp
      obtain ⟨bf, df, rfl⟩ := Src.form i1
      obtain ⟨bi, di, rfl⟩ := RImps.form i2
      obtain ⟨bm, dm, rfl⟩ := RMths.form i3
      obtain ⟨be, de, rfl⟩ := Src.form i4
      obtain ⟨V, hVd⟩ : ∃ V, V = w4.alloc (.cells #[.string ⟨i.name.toArray⟩, .slice bf i.fields.length df, .slice bi i.imports.length di, .slice bm i.methods.length dm, .slice be i.exports.length de] 30) := ⟨_, rfl⟩
      have tV : Tch [] w4 V := by rw [hVd]; exact (Tch.refl [] w4).alloc _
      have hY : V.heap[w4.heap.size]? = some (.cells #[.string ⟨i.name.toArray⟩, .slice bf i.fields.length df, .slice bi i.imports.length di, .slice bm i.methods.length dm, .slice be i.exports.length de] 30 (0, 0)) := by rw [hVd]; exact heap_alloc_new _ _
      go_upto_region 16 with fail
      rw [← hVd]
      clear hVd
      generalize w4.heap.size = g2 at *
      have t5 := t4.then tV
      have T5 := T3.then t5
      obtain ⟨x0, x1, x2, x3, x4, _⟩ := cells5 (heapT hX t5)
      obtain ⟨y0, y1, y2, y3, y4, _⟩ := cells5 hY
      have hS := im_Same V i i _ _ _ _ _ _ _ _ (r1.tch t5 (by simp)) (r2.tch t5 (by simp)) (r3.tch t5 (by simp)) (r4.tch t5 (by simp)) (i1.tch tV (by simp)) (i2.tch tV (by simp)) (i3.tch tV (by simp)) (i4.tch tV (by simp)) hz hz
      have hd : decide (i = i) = true := decide_eq_true rfl
      rw [hd] at hS
      clear hX hY i1 i2 i3 i4 r1 r2 r3 r4 t4 t5 tV T3 hz zj hd h
      go_wp2_with fail
      refine hS.mono ?_
      rintro e w7 ⟨rfl, t7⟩
      have T7 := T5.then t7
      clear hS x0 x1 x2 x3 x4 y0 y1 y2 y3 y4
      go_wp2_with fail
      go_ret
      exact ⟨rfl, T7⟩
end Go.Proofs.YteebapopeaafhaaGreatDoor
