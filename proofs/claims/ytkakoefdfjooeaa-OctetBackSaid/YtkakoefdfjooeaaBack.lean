/-
  STATEMENT: OctetBack: what is laid is taken again by the same calls, and nothing is left: the walk. Conditions: none.
-/
import Derived.Test.YtkakoefdfjooeaaLaw1
import Derived.Test.YtkakoefdfjooeaaBackPlain
import Derived.Deep.CutBlock
import Derived.Deep.DeepCutAuto
namespace Go.Proofs.Ytkakoefdfjooeaa
open Go.RowKit Go.Tcn
set_option linter.unusedVariables false
set_option linter.unusedSimpArgs false
theorem take_snoc_get (ls : List St) (k : Nat) (h : k < ls.length) : encAll (ls.take (k + 1)) = encAll (ls.take k) ++ encSt ls[k] := by
  rw [List.take_succ_eq_append_getElem h, encAll_snoc]
theorem drop_get (ls : List St) (k : Nat) (h : k < ls.length) (h' : k < 40) : encAll ((ls.take 40).drop k) = encSt ls[k] ++ encAll ((ls.take 40).drop (k + 1)) := by
  rw [List.drop_eq_getElem_cons (by simp; omega), encAll_cons]
  simp

set_option maxRecDepth 100000 in
set_option maxHeartbeats 2000000 in
theorem octetBack_walk (w : World) (u : Value) (ls : List St) (hu : Steps w u ls) :
    Calls Try.prog 8 #[u] w fun e w' => e = .returned (.bool true) ∧ Tch [] w w' := by
  have hu0 := hu
  have hbyt : Byt (encAll (ls.take 40)) := encAll_byt (fun x hx => (hu.rng x (List.mem_of_mem_take hx)).2.2.1)
  have hel0 := encAll_length (ls.take 40)
  have hlen40 : (encAll (ls.take 40)).length ≤ 10240 := by rw [List.length_take] at hel0; omega
  clear hel0
  obtain ⟨ao, cap, rfl, hlen, hel⟩ := hu.ex
  go_enter Try.func8, Try.ntmps8
  go_wp2_with fail
  refine (oct_new _).mono ?_
  rintro e w1 ⟨rfl, rfl⟩
  have h1 := Wr.new w 62 5
  have t1 : Tch [] w (w.alloc (.cells #[.slice none 0 0] 62)) := (Tch.refl [] w).alloc _
  go_wp2_with fail
  refine (oct_known _).mono ?_
  rintro e w2 ⟨rfl, t2⟩
  have h2 := h1.tch t2 (by simp) (by simp)
  have t12 := t1.then t2
  clear h1 t1
  go_upto_block 0 with fail
  go_cut [4] (fun _ wz => ∃ r, Wr wz 62 5 w.heap.size r (encAll (ls.take 40)) ∧ w.heap.size ≤ r ∧ Tch [] w wz)
  case first =>
   go_wp2_with fail
   go_loopw [4] (fun i wr => ∃ k : Nat, k ≤ ls.length ∧ k ≤ 40 ∧ i = .int .i64 k ∧ ∃ r, Wr wr 62 5 w.heap.size r (encAll (ls.take k)) ∧ w.heap.size ≤ r ∧ Tch [] w wr) (fun i _ => 40 - (intOf i).toNat)
   case atStart => exact ⟨0, by omega, by omega, rfl, _, h2, Nat.le_refl _, t12⟩
   case round =>
     obtain ⟨k, hk1, hk2, rfl, r, hwr, hrge, htch⟩ := hrel
     have hmle := encAll_length (ls.take k)
     have hml : (encAll (ls.take k)).length ≤ 10240 := by rw [List.length_take] at hmle; omega
     clear hmle h2
     by_cases hk : k < ls.length ∧ k < 40
     · clear hbyt hlen40
       obtain ⟨hk3, hk4⟩ := hk
       obtain ⟨ad, vb, rfl, hadlt, hcell, hsrc⟩ := hel k ls[k] (by simp [hk3])
       have hr := hu0.rng ls[k] (List.getElem_mem hk3)
       obtain ⟨hw, hn, hbt', hbl'⟩ := hr
       have hc0 : wr.cell? (ad.add (k * 3)) = some (.int .i64 ls[k].1) := by
         rw [htch.cell (by rw [Addr_add_block]; exact hadlt) (by simp), ← Addr_add_zero (ad.add (k * 3))]
         exact hcell 0 _ rfl
       have hc1 : ∀ wx, Tch [] w wx → wx.cell? ⟨(ad.add (k * 3)).block, (ad.add (k * 3)).off + 1, none⟩ = some (.int .i64 ls[k].2.1) := fun wx tx => by
         rw [show (⟨(ad.add (k * 3)).block, (ad.add (k * 3)).off + 1, none⟩ : Addr) = (ad.add (k * 3)).add 1 from rfl, tx.cell (by rw [Addr_add_block, Addr_add_block]; exact hadlt) (by simp)]
         exact hcell 1 _ rfl
       have hc2 : ∀ wx, Tch [] w wx → wx.cell? ⟨(ad.add (k * 3)).block, (ad.add (k * 3)).off + 2, none⟩ = some vb := fun wx tx => by
         rw [show (⟨(ad.add (k * 3)).block, (ad.add (k * 3)).off + 2, none⟩ : Addr) = (ad.add (k * 3)).add 2 from rfl, tx.cell (by rw [Addr_add_block, Addr_add_block]; exact hadlt) (by simp)]
         exact hcell 2 _ rfl

       have hts := take_snoc_get ls k hk3
       have hsz := htch.size
       have HT := Lib.hid hts; clear hts
       have hsx := hsrc.tch htch (by simp)
       clear hel hcell hu0 hu hsrc
       generalize ls[k] = x at *
       obtain ⟨what, n, bb⟩ := x
       dsimp only at *
       obtain ⟨aob, capb, rfl⟩ := hsx.form
       have hnext : ∀ (r' : Nat) (wb : World) (m' : List Int), (r' = r ∨ wr.heap.size ≤ r') → Tch [w.heap.size, r] wr wb → w.heap.size ≤ r' ∧ Tch [] w wb := fun r' wb m' h t => ⟨by omega, htch.trans t (by simp) (by intro i hi hx; simp at hx; omega)⟩
       have hpk := hand_Pick what 4 hw (by omega) (by omega)
       have hcase : what % 4 = 0 ∨ what % 4 = 1 ∨ what % 4 = 2 ∨ what % 4 = 3 := by omega
       have hc1w := hc1 wr htch
       have hc2w := hc2 wr htch
       clear hc1 hc2
       go_wp2_with fail
       refine (hpk _).mono ?_
       rintro e w' ⟨rfl, rfl⟩
       clear hpk hc0
       rcases hcase with hc5 | hc5 | hc5 | hc5
       · have hE := encSt_0 (x := (what, n, bb)) hc5
         have HE := Lib.hid hE; clear hE
         rw [hc5]; clear hc5 hc2w
         have hpn := hand_Pick n 256 hn (by omega) (by omega)
         have hnr : 0 ≤ n % 256 ∧ n % 256 < 256 := by omega
         go_wp2_with fail
         refine (hpn _).mono ?_
         rintro e w' ⟨rfl, rfl⟩
         clear hpn hc1w
         go_wp2_with fail
         refine (oct_U8 _ _ _ _ _ hwr (by omega) (by omega)).mono ?_
         rintro e wb ⟨rfl, r', hb, hr', tb⟩
         obtain ⟨g1, g2⟩ := hnext r' wb [] hr' tb
         go_wp2_with fail
         go_roundw
         case rel => exact ⟨k + 1, by omega, by omega, by go_num, r', by rw [HT.out, HE.out]; exact hb, g1, g2⟩
         case measure => simp [intOf]; omega
       · have hE := encSt_1 (x := (what, n, bb)) hc5
         have HE := Lib.hid hE; clear hE
         rw [hc5]; clear hc5 hc2w
         have hpn := hand_Pick n 65536 hn (by omega) (by omega)
         have hnr : 0 ≤ n % 65536 ∧ n % 65536 < 65536 := by omega
         go_wp2_with fail
         refine (hpn _).mono ?_
         rintro e w' ⟨rfl, rfl⟩
         clear hpn hc1w
         go_wp2_with fail
         refine (oct_U16 _ _ _ _ _ hwr (by omega) (by omega)).mono ?_
         rintro e wb ⟨rfl, r', hb, hr', tb⟩
         obtain ⟨g1, g2⟩ := hnext r' wb [] hr' tb
         go_wp2_with fail
         go_roundw
         case rel => exact ⟨k + 1, by omega, by omega, by go_num, r', by rw [HT.out, HE.out]; exact hb, g1, g2⟩
         case measure => simp [intOf]; omega
       · have hE := encSt_2 (x := (what, n, bb)) hc5
         have HE := Lib.hid hE; clear hE
         rw [hc5]; clear hc5 hc2w
         have hz := wrap_s32 n
         have hnr : -2147483648 ≤ s32 n ∧ s32 n ≤ 2147483647 := by unfold s32; omega
         go_wp2_with fail
         refine (oct_S32 _ _ _ _ _ hwr (by omega) (by omega)).mono ?_
         rintro e wb ⟨rfl, r', hb, hr', tb⟩
         obtain ⟨g1, g2⟩ := hnext r' wb [] hr' tb
         clear hz hc1w
         go_wp2_with fail
         go_roundw
         case rel => exact ⟨k + 1, by omega, by omega, by go_num, r', by rw [HT.out, HE.out]; exact hb, g1, g2⟩
         case measure => simp [intOf]; omega
       · have hE := encSt_3 (x := (what, n, bb)) hc5
         have HE := Lib.hid hE; clear hE
         rw [hc5]; clear hc5 hc1w
         go_wp2_with fail
         refine (hand_Few _ [] _ bb hsx 255 (by omega) hbl' (by omega)).mono ?_
         rintro e wa ⟨ao1, cp1, rfl, ho1, hg1, ta⟩
         have hwa := hwr.tch ta (by simp) (by simp)
         have hl1 := hwr.lt
         have hl2 := hwr.row_lt
         have hs1 := src_of_owns ho1 [w.heap.size, r] (fun g hg hx => by have := hg1 g hg; simp at hx; omega)
         have hb255 : (bb.take 255).length ≤ 255 := by simp; omega
         clear hc2w ho1 hg1
         generalize bb.take 255 = b2 at *
         go_wp2_with fail
         refine (oct_Short _ _ _ _ hwa _ _ b2 hs1 (by simp) (by simp) (by omega) (by omega)).mono ?_
         rintro e wb ⟨rfl, r', hb, hr', tb⟩
         have e1 : shortN (encAll (ls.take k)) b2 = encAll (ls.take k) ++ (putN (b2.length : Int) 1 ++ b2) := by unfold shortN; rw [if_pos hb255, List.append_assoc]
         rw [e1] at hb
         have sa := ta.size
         have g1 : w.heap.size ≤ r' := by omega
         have g2 : Tch [] w wb := (htch.then ta).trans tb (by simp) (by intro i hi hx; simp at hx; omega)
         clear e1
         go_wp2_with fail
         go_roundw
         case rel => exact ⟨k + 1, by omega, by omega, by go_num, r', by rw [HT.out, HE.out]; exact hb, g1, g2⟩
         case measure => simp [intOf]; omega
     · have hall : encAll (ls.take k) = encAll (ls.take 40) := by
         rcases Nat.lt_or_ge k ls.length with h | h
         · have : k = 40 := by omega
           rw [this]
         · rw [List.take_of_length_le h, List.take_of_length_le (by omega)]
       rw [hall] at hwr
       have hcases : ¬ k < ls.length ∨ (k < ls.length ∧ ¬ k < 40) := by omega
       clear hall hel hu0 hu hbyt hlen40
       rcases hcases with hk0 | ⟨hk0, hk3⟩
       all_goals
         go_wp2_with fail
         go_meet
         case rel => exact ⟨r, hwr, hrge, htch⟩
  case rest =>
        obtain ⟨r, hwr, hrge, htch⟩ := hcut
        clear h2 t12 t2
        go_wp2_with fail
        refine (oct_Bytes _ _ _ _ hwr (by omega)).mono ?_
        rintro e w5 ⟨ao5, cap5, rfl, h5, hg5, t5⟩
        go_wp2_with fail
        refine (oct_NewReader _ [] (by simp) [] _ _ (src_of_owns h5 [] (by simp)) hbyt (by omega)).mono ?_
        rintro e w6 ⟨q, rfl, hq, h6, t6⟩
        have hqw : w.heap.size ≤ q := by have := htch.size; have := t5.size; omega
        have tw6 := (htch.then t5).then t6
        clear hwr h5 hg5 t5 t6 hq htch
        go_wp2_with fail
        go_loopw [6] (fun i wz => ∃ k : Nat, k ≤ ls.length ∧ k ≤ 40 ∧ i = .int .i64 k ∧ Rd wz 67 q [] (encAll ((ls.take 40).drop k)) false ∧ Tch [] w wz) (fun i _ => 40 - (intOf i).toNat)
        case atStart => exact ⟨0, by omega, by omega, rfl, by rw [List.drop_zero]; exact h6, tw6⟩
        case round =>
          clear tw6
          obtain ⟨k, hk1, hk2, rfl, hrd, htch⟩ := hrel
          have hdl : (encAll ((ls.take 40).drop k)).length ≤ 10240 := by
            have := encAll_length ((ls.take 40).drop k)
            rw [List.length_drop, List.length_take] at this
            omega
          clear hbyt hlen40 h6
          by_cases hk : k < ls.length ∧ k < 40
          · obtain ⟨hk3, hk4⟩ := hk
            obtain ⟨ad, vb, rfl, hadlt, hcell, hsrc⟩ := hel k ls[k] (by simp [hk3])
            have hr := hu0.rng ls[k] (List.getElem_mem hk3)
            obtain ⟨hw, hn, hbt', hbl'⟩ := hr
            have hc0 : wr.cell? (ad.add (k * 3)) = some (.int .i64 ls[k].1) := by
              rw [htch.cell (by rw [Addr_add_block]; exact hadlt) (by simp), ← Addr_add_zero (ad.add (k * 3))]
              exact hcell 0 _ rfl
            have hc1 : ∀ wx, Tch [] w wx → wx.cell? ⟨(ad.add (k * 3)).block, (ad.add (k * 3)).off + 1, none⟩ = some (.int .i64 ls[k].2.1) := fun wx tx => by
              rw [show (⟨(ad.add (k * 3)).block, (ad.add (k * 3)).off + 1, none⟩ : Addr) = (ad.add (k * 3)).add 1 from rfl, tx.cell (by rw [Addr_add_block, Addr_add_block]; exact hadlt) (by simp)]
              exact hcell 1 _ rfl
            have hc2 : ∀ wx, Tch [] w wx → wx.cell? ⟨(ad.add (k * 3)).block, (ad.add (k * 3)).off + 2, none⟩ = some vb := fun wx tx => by
              rw [show (⟨(ad.add (k * 3)).block, (ad.add (k * 3)).off + 2, none⟩ : Addr) = (ad.add (k * 3)).add 2 from rfl, tx.cell (by rw [Addr_add_block, Addr_add_block]; exact hadlt) (by simp)]
              exact hcell 2 _ rfl
            rw [drop_get ls k hk3 hk4] at hrd hdl
            have hsz := htch.size
            have hsx0 : ∀ wx, Tch [] w wx → Src wx [] vb ls[k].2.2.length (bys ls[k].2.2) := fun wx t => hsrc.tch t (by simp)
            clear hel hcell hu0 hu hsrc
            obtain ⟨rest, hrest⟩ : ∃ rest, encAll ((ls.take 40).drop (k + 1)) = rest := ⟨_, rfl⟩
            rw [hrest] at hrd hdl
            have HRE := Lib.hid hrest; clear hrest
            generalize ls[k] = x at *
            obtain ⟨what, n, bb⟩ := x
            dsimp only at *
            obtain ⟨aob, capb, rfl⟩ := (hsx0 wr htch).form
            have hpk := hand_Pick what 4 hw (by omega) (by omega)
            have hcase : what % 4 = 0 ∨ what % 4 = 1 ∨ what % 4 = 2 ∨ what % 4 = 3 := by omega
            have hq1 : ∀ wa, Tch [q] wr.drew wa → Tch [] w wa := fun wa t => (htch.drew).trans t (by simp) (by intro i hi hx; simp at hx; omega)
            go_wp2_with fail
            refine (hpk _).mono ?_
            rintro e w' ⟨rfl, rfl⟩
            clear hpk hc0
            rcases hcase with hc5 | hc5 | hc5 | hc5
            · rw [encSt_0 (x := (what, n, bb)) hc5] at hrd hdl
              rw [hc5]; clear hc5 hc2 hsx0
              dsimp only at hrd hdl
              obtain ⟨b1, b2, b3⟩ := back_0 n rest
              have B2 := Lib.hid b2; have B3 := Lib.hid b3; clear b2 b3
              have hrd1 := hrd.tch ((Tch.refl [] wr).drew) (by simp) (by simp)
              have hdl1 : (putN (n % 256) 1 ++ rest).length ≤ 140737488355328 := by omega
              have hcw := hc1 wr.drew htch.drew
              have hpn := hand_Pick n 256 hn (by omega) (by omega)
              clear hrd
              go_wp2_with fail
              go_region_with (first | (go_at_call 43; refine (oct_RU8 _ _ _ _ _ hrd1 hdl1).mono ?_; rintro e wa ⟨rfl, ha, ta⟩; have tw := hq1 wa ta; have hcn := hc1 wa tw) | (go_at_call 13; refine (hpn _).mono ?_; rintro e w' ⟨rfl, rfl⟩))
              all_goals
                rw [B2.out, B3.out] at ha
                clear b1 hcn hcw hrd1 hc1
                go_wp2_with fail
                go_roundw
                case rel => exact ⟨k + 1, by omega, by omega, by go_num, by rw [HRE.out]; exact ha, tw⟩
                case measure => simp [intOf]; omega
            · rw [encSt_1 (x := (what, n, bb)) hc5] at hrd hdl
              rw [hc5]; clear hc5 hc2 hsx0
              dsimp only at hrd hdl
              obtain ⟨b1, b2, b3⟩ := back_1 n rest
              have B2 := Lib.hid b2; have B3 := Lib.hid b3; clear b2 b3
              have hrd1 := hrd.tch ((Tch.refl [] wr).drew) (by simp) (by simp)
              have hdl1 : (putN (n % 65536) 2 ++ rest).length ≤ 140737488355328 := by omega
              have hcw := hc1 wr.drew htch.drew
              have hpn := hand_Pick n 65536 hn (by omega) (by omega)
              clear hrd
              go_wp2_with fail
              go_region_with (first | (go_at_call 42; refine (oct_RU16 _ _ _ _ _ hrd1 hdl1).mono ?_; rintro e wa ⟨rfl, ha, ta⟩; have tw := hq1 wa ta; have hcn := hc1 wa tw) | (go_at_call 13; refine (hpn _).mono ?_; rintro e w' ⟨rfl, rfl⟩))
              all_goals
                rw [B2.out, B3.out] at ha
                clear b1 hcn hcw hrd1 hc1
                go_wp2_with fail
                go_roundw
                case rel => exact ⟨k + 1, by omega, by omega, by go_num, by rw [HRE.out]; exact ha, tw⟩
                case measure => simp [intOf]; omega
            · rw [encSt_2 (x := (what, n, bb)) hc5] at hrd hdl
              rw [hc5]; clear hc5 hc2 hsx0
              dsimp only at hrd hdl
              obtain ⟨b1, b2, b3⟩ := back_2 n rest
              have B2 := Lib.hid b2; have B3 := Lib.hid b3; clear b2 b3
              have hrd1 := hrd.tch ((Tch.refl [] wr).drew) (by simp) (by simp)
              have hdl1 : (putN (s32 n) 4 ++ rest).length ≤ 140737488355328 := by omega
              have hcw := hc1 wr.drew htch.drew
              have hz := wrap_s32 n
              clear hrd
              go_wp2_with fail
              go_region_with (first | (go_at_call 41; refine (oct_RS32 _ _ _ _ _ hrd1 hdl1).mono ?_; rintro e wa ⟨rfl, ha, ta⟩; have tw := hq1 wa ta; have hcn := hc1 wa tw))
              all_goals
                rw [B2.out, B3.out] at ha
                clear b1 hcn hcw hrd1 hc1
                go_wp2_with fail
                go_roundw
                case rel => exact ⟨k + 1, by omega, by omega, by go_num, by rw [HRE.out]; exact ha, tw⟩
                case measure => simp [intOf]; omega
            · rw [encSt_3 (x := (what, n, bb)) hc5] at hrd hdl
              rw [hc5]; clear hc5 hc1
              dsimp only at hrd hdl
              have hb255 : (bb.take 255).length ≤ 255 := by simp; omega
              obtain ⟨b1, b2, b3⟩ := back_3 (bb.take 255) rest hb255
              have hrd1 := hrd.tch ((Tch.refl [] wr).drew) (by simp) (by simp)
              have hdl1 : (putN ((bb.take 255).length : Int) 1 ++ bb.take 255 ++ rest).length ≤ 140737488355328 := by omega
              have hrs := oct_RShort wr.drew q [] _ false hrd1 hdl1
              rw [b1, b2, b3] at hrs
              have hfw := fun wx (tx : Tch [] w wx) => hand_Few wx [] _ bb (hsx0 wx tx) 255 (by omega) hbl' (by omega)
              have hcw := hc2 wr.drew htch.drew
              clear hrd hrd1 hdl1 b1 b2 b3 hdl hsx0
              generalize bb.take 255 = b2 at *
              go_wp2_with fail
              go_region_with (first | (go_at_call 52; refine hrs.mono ?_; rintro e wa ⟨ao1, cp1, rfl, ho1, hg1, ha, ta⟩; have tw := hq1 wa ta; have hcn := hc2 wa tw; have hs1 := run_str 27 5 9 Try.underlying27 Try.underlying5 Try.underlying9 (src_of_owns ho1 [] (by simp))) | (go_at_call 46; refine (hfw wa tw).mono ?_; rintro e wb ⟨ao2, cp2, rfl, ho2, hg2, tb⟩; have hs2 := run_str 27 5 9 Try.underlying27 Try.underlying5 Try.underlying9 (src_of_owns (ownsRow_tch ho1 tb (by simp)) [] (by simp)); have hs3 := run_str 27 5 9 Try.underlying27 Try.underlying5 Try.underlying9 (src_of_owns ho2 [] (by simp))))
              all_goals
                have hb := ha.tch tb (by simp) (by simp)
                have tz := tw.then tb
                clear hs1 hs2 hs3 ho1 ho2 hg1 hg2 hcn hcw ha hrs hfw hc2
                go_wp2_with fail
                go_roundw
                case rel => exact ⟨k + 1, by omega, by omega, by go_num, by rw [HRE.out]; exact hb, tz⟩
                case measure => simp [intOf]; omega
          · have hnil : encAll ((ls.take 40).drop k) = [] := by
              rw [List.drop_eq_nil_of_le (by rw [List.length_take]; omega)]; rfl
            rw [hnil] at hrd
            have hcases : ¬ k < ls.length ∨ (k < ls.length ∧ ¬ k < 40) := by omega
            clear hnil hdl hel hu0 hu
            rcases hcases with hk0 | ⟨hk0, hk3⟩
            all_goals
              go_wp2_with fail
              refine (oct_Left _ _ _ _ _ hrd).mono ?_
              rintro e w' ⟨rfl, rfl⟩
              go_wp2_with fail
              refine (oct_Lack _ _ _ _ _ hrd).mono ?_
              rintro e w' ⟨rfl, rfl⟩
              go_wp2_with fail
              go_ret
              exact ⟨rfl, htch⟩
end Go.Proofs.Ytkakoefdfjooeaa
