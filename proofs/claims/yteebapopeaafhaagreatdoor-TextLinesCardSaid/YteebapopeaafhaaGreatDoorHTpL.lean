/-
  STATEMENT: TextLines: a wrong line in an applet's text is told by its number: the walk. Conditions: utf8's tables and the bins as they are laid; strconv.Itoa's contract; the variable MaxLen holds a number; the raw statements fit in memory.
-/
import Derived.Test.YteebapopeaafhaaGreatDoorHTpP
import Derived.Test.YteebapopeaafhaaGreatDoorHTpQ
namespace Go.Tcn
open Go.RowKit
theorem badW_len (b : Int) : (badW b).length ≤ 11 := by
  unfold badW
  repeat' split
  all_goals decide
theorem badW_one (b : Int) (hb : 0 ≤ b ∧ b ≤ 4) : (badW b == [97, 112, 112, 108, 101, 116, 32, 97]) = decide (b = 1) := by
  have h : b = 0 ∨ b = 1 ∨ b = 2 ∨ b = 3 ∨ b = 4 := by omega
  rcases h with rfl | rfl | rfl | rfl | rfl <;> decide
end Go.Tcn
namespace Go.Proofs.YteebapopeaafhaaGreatDoor
open Go.RowKit Go.Tcn
set_option linter.unusedVariables false
set_option linter.unusedSimpArgs false
set_option maxRecDepth 100000 in
theorem bads_at (b : Int) (hb : 0 ≤ b ∧ b ≤ 4) : ∀ w : World, (Instr.index 42 (.agg #[.string ⟨#[110, 111, 110, 115, 101, 110, 115, 101]⟩, .string ⟨#[97, 112, 112, 108, 101, 116, 32, 97]⟩, .string ⟨#[109, 101, 116, 104, 111, 100, 32, 115, 111, 114, 116]⟩, .string ⟨#[112, 117, 115, 104]⟩, .string ⟨#[101, 120, 112, 111, 114, 116, 32, 120]⟩]) (.int .i64 b)).run Tryz.prog w = .ok (.string ⟨(badW b).toArray⟩) w := by
  have h : b = 0 ∨ b = 1 ∨ b = 2 ∨ b = 3 ∨ b = 4 := by omega
  rcases h with rfl | rfl | rfl | rfl | rfl
  all_goals exact fun _ => by kernel_rfl
set_option maxRecDepth 100000 in
set_option maxHeartbeats 8000000 in
theorem law5_TextLines (w : World) (hG : Bins w 2) (k : Int) (hk : I6 k) (xv : Value) (l : List Rw) (hl : Raws w xv l) (hll : l.length ≤ 5000000000000) (hcap : ∀ ao n c, xv = .slice ao n c → n ≤ c) (at0 what : Int) (hat : I6 at0) (hwh : I6 what) (hM : MaxC 3 w) (hV : ValC w) (hI : ItoC Tryz.prog 37 w) :
    Calls Tryz.prog 5 #[.int .i64 k, xv, .int .i64 at0, .int .i64 what] w fun e w' => e = .returned (.bool true) ∧ Tch [] w w' := by
  have hAp := hand_AppX w hG k hk xv l hl hll hcap [] (by simp)
  obtain ⟨aox, nx, capx, hxv⟩ : ∃ ao n c, xv = .slice ao n c := by
    obtain ⟨ao, c, h, _⟩ := hl.ex
    exact ⟨ao, _, c, h⟩
  subst hxv
  clear hG hl hll hcap
  go_enter Tryz.func5, Tryz.ntmps5
  go_wp2_with fail
  refine hAp.mono ?_
  rintro e w1 ⟨i, vf, vi, vm, ve, rfl, r1, r2, r3, r4, hz, hb, hm3, hcod, t1⟩
  have hA := tx_Print w1 i _ _ _ _ r1 r2 r3 r4 hz (hV.tch' t1) (hI.tch t1)
  rw [prRes_yes hb] at hA
  have hten := (img_lns i hb).out.2
  have HT := Lib.hid (line_told i hb)
  have HS : Hid (printW i = textOf (imgLs i)) := Lib.hid rfl
  clear hAp hm3 hcod hz r1 r2 r3 r4
  go_wp2_with fail
  refine hA.mono ?_
  rintro e w2 ⟨rfl, hsl, t2⟩
  replace hsl := hsl hb
  clear hA hb
  generalize imgLs i = ls at *
  generalize printW i = s at *
  have T2 := t1.then t2
  have hK := t5_known w2 (hM.tch T2) (hV.tch' T2)
  clear t1 t2
  go_wp2_with fail
  refine hK.mono ?_
  rintro e w3 ⟨rfl, t3⟩
  have T3 := T2.then t3
  have M3 := hM.tch T3
  have V3 := hV.tch' T3
  clear hK T2 t3 hM hV hI
  have hc0 : cntW s = ls.length := by rw [HS.out]; exact cntW_text ls hten
  have hcs := cntW_le s
  rw [hc0] at hcs
  have HC0 := Lib.hid hc0
  clear hc0
  go_upto_region 6 with fail
  go_loopw [11, 12] (fun nv iv wz => ∃ j : Nat, j ≤ s.length ∧ nv = .int .i64 (cntW (s.take j) : Nat) ∧ iv = .int .i64 j ∧ w3 = wz) (fun _ iv _ => s.length - (intOf iv).toNat)
  case atStart => exact ⟨0, by omega, rfl, rfl, rfl⟩
  case round =>
    obtain ⟨j, hj1, rfl, rfl, rfl⟩ := hrel
    by_cases hj : j < s.length
    · obtain ⟨c, hc⟩ : ∃ c, s[j] = c := ⟨_, rfl⟩
      have hgk : ∀ h, (⟨s.toArray⟩ : ByteArray)[j]'h = c := fun _ => hc
      have hgl : ∀ h, s[j]'h = c := fun _ => hc
      have htk : s.take (j + 1) = s.take j ++ [c] := by rw [← hc]; exact (List.take_append_getElem hj).symm
      have HC := Lib.hid (show cntW (s.take (j + 1)) = if c = 10 then cntW (s.take j) + 1 else cntW (s.take j) by rw [htk]; exact cntW_snoc _ c)
      have hcl := cntW_le (s.take j)
      rw [List.length_take] at hcl
      clear htk hc
      generalize cntW (s.take j) = n at *
      by_cases h10 : c = 10
      · have hc10 : ((c.toNat : Int) == 10) = true := by subst h10; decide
        have H10 := Lib.hid h10
        clear h10
        go_wp2_with fail
        go_roundw
        case rel => exact ⟨j + 1, by omega, by rw [HC.out, if_pos H10.out]; go_num, by go_num, by first | rfl | trivial⟩
        case measure => simp [intOf]; omega
      · have hc10 : ((c.toNat : Int) == 10) = false := by
          have : c.toNat ≠ 10 := fun e => h10 (UInt8.toNat_inj.1 e)
          simp; omega
        have H10 := Lib.hid h10
        clear h10
        go_wp2_with fail
        go_roundw
        case rel => exact ⟨j + 1, by omega, by rw [HC.out, if_neg H10.out], by go_num, by first | rfl | trivial⟩
        case measure => simp [intOf]; omega
    · have hke : s.take j = s := List.take_of_length_le (by omega)
      rw [hke, HC0.out]
      clear hke HC0
      have hP1 := hand_Pick at0 (ls.length + 1) hat (by omega) (by omega) w3
      have hq1 := Int.emod_nonneg at0 (show ((ls.length : Int) + 1) ≠ 0 by omega)
      have hq2 := Int.emod_lt_of_pos at0 (show (0 : Int) < (ls.length : Int) + 1 by omega)
      obtain ⟨m, hm, hml⟩ : ∃ m : Nat, at0 % ((ls.length : Int) + 1) = m ∧ m ≤ ls.length := ⟨(at0 % ((ls.length : Int) + 1)).toNat, by omega, by omega⟩
      rw [hm] at hP1
      have hP2 := hand_Pick what 5 hwh (by omega) (by omega) w3
      obtain ⟨b, hb, hb0⟩ : ∃ b : Int, what % 5 = b ∧ 0 ≤ b ∧ b ≤ 4 := ⟨_, rfl, by omega, by omega⟩
      rw [hb] at hP2
      have hbi := bads_at b hb0
      clear hm hb hq1 hq2
      go_wp2_with fail
      refine hP1.mono ?_
      rintro e w' ⟨rfl, rfl⟩
      clear hP1
      go_wp2_with fail
      refine hP2.mono ?_
      rintro e w' ⟨rfl, rfl⟩
      clear hP2
      have hbl := badW_len b
      have hb1 := badW_one b hb0
      have HB := Lib.hid (And.intro hb0 hml)
      clear hb0 hml
      by_cases hA : m = 0 ∧ b = 1
      · have hm0 : ((m : Int) == 0) = true := by simp [hA.1]
        rw [show decide (b = 1) = true by simp [hA.2]] at hb1
        clear hA
        generalize badW b = bad at *
        go_wp2_with fail
        go_ret
        exact ⟨rfl, T3⟩
      · have HA := Lib.hid (show m ≠ 0 ∨ b ≠ 1 by omega)
        go_upto_if 55 with fail
        go_cut [14] (fun v wz => v = .string ⟨(if m = 0 then badW b ++ [10] else []).toArray⟩ ∧ w3 = wz)
        case first =>
          by_cases hm0 : m = 0
          · have hd0 : ((m : Int) == 0) = true := by simp [hm0]
            rw [show decide (b = 1) = false by simp; omega] at hb1
            have HM0 := Lib.hid hm0
            clear hm0 hA
            generalize badW b = bad at *
            have g1 : ¬ 9223372036854775807 < bad.length + 1 := by omega
            go_wp2_with fail
            go_meet
            exact ⟨congrArg Value.string (by rw [if_pos HM0.out, ← str_app]), rfl⟩
          · have hd0 : ((m : Int) == 0) = false := by simp [hm0]
            have HM0 := Lib.hid hm0
            clear hm0 hA
            go_wp2_with fail
            go_meet
            exact ⟨by rw [if_neg HM0.out], rfl⟩
        case rest =>
          obtain ⟨rfl, rfl⟩ := hcut
          clear hA hb1
          have hT := HT.out m b HB.out.1 HB.out.2 HA.out
          have HF := Lib.hid (show (splW (badW b) m (if m = 0 then badW b ++ [10] else []) s).1 = textOf (ls.take m ++ badW b :: ls.drop m) by rw [HS.out]; exact splW_text (badW b) m ls hten HB.out.2)
          have hol : (if m = 0 then badW b ++ [10] else []).length ≤ 12 := by split <;> simp <;> omega
          rw [← HF.out] at hT
          clear HF HT HS hten HA
          generalize badW b = bad at *
          generalize (if m = 0 then bad ++ [10] else []) = o0 at *
          go_wp2_with fail
          go_loopw [14, 15, 16] (fun ov nv iv wz => ∃ j : Nat, j ≤ s.length ∧ ov = .string ⟨(splW bad m o0 (s.take j)).1.toArray⟩ ∧ nv = .int .i64 ((splW bad m o0 (s.take j)).2 : Nat) ∧ iv = .int .i64 j ∧ w3 = wz) (fun _ _ iv _ => s.length - (intOf iv).toNat)
          case atStart => exact ⟨0, by omega, rfl, rfl, rfl, rfl⟩
          case round =>
            obtain ⟨j, hj1, rfl, rfl, rfl, rfl⟩ := hrel
            by_cases hj : j < s.length
            · obtain ⟨c, hc⟩ : ∃ c, s[j] = c := ⟨_, rfl⟩
              have hgk : ∀ h, (⟨s.toArray⟩ : ByteArray)[j]'h = c := fun _ => hc
              have hgl : ∀ h, s[j]'h = c := fun _ => hc
              have hex : (⟨s.toArray⟩ : ByteArray).extract j (j + 1) = ⟨[c].toArray⟩ := one_byte s j c hj hc
              have htk : s.take (j + 1) = s.take j ++ [c] := by rw [← hc]; exact (List.take_append_getElem hj).symm
              have HC := Lib.hid (show splW bad m o0 (s.take (j + 1)) = splS bad m (splW bad m o0 (s.take j)) c by rw [htk]; exact splW_snoc _ _ _ _ c)
              obtain ⟨hcl, hcn⟩ := splW_len bad m o0 (s.take j)
              have hmul : (bad.length + 2) * (s.take j).length ≤ 13 * 1000000 := Nat.mul_le_mul (by omega) (by rw [List.length_take]; omega)
              replace hcl : (splW bad m o0 (s.take j)).1.length ≤ 14000000 := by omega
              rw [List.length_take] at hcn
              clear htk hc hmul
              obtain ⟨ob, nb, hp⟩ : ∃ ob nb, splW bad m o0 (s.take j) = (ob, nb) := ⟨_, _, rfl⟩
              rw [hp] at HC hcl hcn ⊢
              clear hp
              simp only at hcl hcn
              have g1 : ¬ 9223372036854775807 < ob.length + 1 := by omega
              have g2 : ¬ 9223372036854775807 < ob.length + 1 + bad.length := by omega
              have g3 : ¬ 9223372036854775807 < ob.length + 1 + bad.length + 1 := by omega
              by_cases h10 : c = 10
              · have hc10 : ((c.toNat : Int) == 10) = true := by subst h10; decide
                by_cases hnm : nb + 1 = m
                · have hd1 : (((nb : Int) + 1) == (m : Int)) = true := by simp; omega
                  have HE := Lib.hid (show splS bad m (ob, nb) c = (ob ++ [c] ++ bad ++ [10], nb + 1) by simp [splS, h10, hnm])
                  clear h10 hnm
                  go_wp2_with fail
                  go_roundw
                  case rel => exact ⟨j + 1, by omega, congrArg Value.string (by rw [HC.out, HE.out, ← str_app, ← str_app, ← str_app]), by rw [HC.out, HE.out]; go_num, by go_num, by first | rfl | trivial⟩
                  case measure => simp [intOf]; omega
                · have hd1 : (((nb : Int) + 1) == (m : Int)) = false := by simp; omega
                  have HE := Lib.hid (show splS bad m (ob, nb) c = (ob ++ [c], nb + 1) by simp [splS, h10, hnm])
                  clear h10 hnm
                  go_wp2_with fail
                  go_roundw
                  case rel => exact ⟨j + 1, by omega, congrArg Value.string (by rw [HC.out, HE.out, ← str_app]), by rw [HC.out, HE.out]; go_num, by go_num, by first | rfl | trivial⟩
                  case measure => simp [intOf]; omega
              · have hc10 : ((c.toNat : Int) == 10) = false := by
                  have : c.toNat ≠ 10 := fun e => h10 (UInt8.toNat_inj.1 e)
                  simp; omega
                have HE := Lib.hid (show splS bad m (ob, nb) c = (ob ++ [c], nb) by simp [splS, h10])
                clear h10
                go_wp2_with fail
                go_roundw
                case rel => exact ⟨j + 1, by omega, congrArg Value.string (by rw [HC.out, HE.out, ← str_app]), by rw [HC.out, HE.out], by go_num, by first | rfl | trivial⟩
                case measure => simp [intOf]; omega
            · have hke : s.take j = s := List.take_of_length_le (by omega)
              rw [hke]
              obtain ⟨hcl, _⟩ := splW_len bad m o0 s
              have hmul : (bad.length + 2) * s.length ≤ 13 * 1000000 := Nat.mul_le_mul (by omega) (by omega)
              obtain ⟨mm, hmm⟩ := M3
              have hp := tx_Parse w3 (splW bad m o0 s).1 (by omega) mm hmm V3
              rw [hT] at hp
              clear hke hcl hmul hT hmm V3
              have hml := HB.out.2
              generalize (splW bad m o0 s).1 = out at *
              generalize (splW bad m o0 s).2 = nout at *
              go_wp2_with fail
              refine hp.mono ?_
              rintro e w4 ⟨vf, vi, vm, ve, rfl, i1, i2, i3, i4, _, t4⟩
              clear hp
              obtain ⟨af, cf, rfl⟩ := Src.form i1
              obtain ⟨ai, ci, rfl⟩ := RImps.form i2
              obtain ⟨am, cm, rfl⟩ := RMths.form i3
              obtain ⟨ae, ce, rfl⟩ := Src.form i4
              have T4 := T3.then (t4.alloc (.cells #[.string ⟨#[]⟩, .slice af 0 cf, .slice ai 0 ci, .slice am 0 cm, .slice ae 0 ce] 30))
              clear i1 i2 i3 i4 t4
              go_wp2_with fail
              go_ret
              exact ⟨rfl, T4⟩
end Go.Proofs.YteebapopeaafhaaGreatDoor
