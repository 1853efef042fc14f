/-
  CONTRACTS: the document's text: kinds and their names, words, a line's words, a number. Conditions: lines are shorter than 2^40 bytes.
  CONTRACTS: the document's digits (Digits, below). Conditions: none.
  CONTRACTS: the document's text: a number of a word. Conditions: the word is shorter than 2^40 bytes.
-/
import Derived.Test.YteebapopeaafhaaGreatDoorHTx2
import Derived.Test.YteebapopeaafhaaGreatDoorHTxR
namespace Go.Tcn
open Go.RowKit
set_option linter.unusedVariables false
set_option linter.unusedSimpArgs false
theorem one_byte (l : Wd) (k : Nat) (c : UInt8) (hk : k < l.length) (hc : l[k] = c) : (⟨l.toArray⟩ : ByteArray).extract k (k + 1) = ⟨[c].toArray⟩ := by
  apply ByteArray.ext
  apply Array.toList_inj.1
  rw [Lib.extract_data]
  show (l.drop k).take (k + 1 - k) = [c]
  rw [List.drop_eq_getElem_cons hk, hc, show k + 1 - k = 1 by omega]
  rfl
end Go.Tcn
namespace Go.Proofs.YteebapopeaafhaaGreatDoor
open Go.RowKit Go.Tcn
set_option linter.unusedVariables false
set_option linter.unusedSimpArgs false
set_option maxRecDepth 100000 in
theorem kn_at (k : Int) (h : 0 ≤ k ∧ k ≤ 4) : ∀ w, (Instr.index 42 (.agg #[.string ⟨#[110, 111, 110, 101]⟩, .string ⟨#[112, 117, 98]⟩, .string ⟨#[115, 101, 99]⟩, .string ⟨#[112, 117, 98, 97]⟩, .string ⟨#[115, 101, 99, 97]⟩]) (.int .i64 k)).run Tryz.prog w = .ok (.string ⟨(kindNm k).toArray⟩) w := by
  have h : k = 0 ∨ k = 1 ∨ k = 2 ∨ k = 3 ∨ k = 4 := by omega
  rcases h with h | h | h | h | h
  all_goals rw [h]; exact fun _ => by kernel_rfl
set_option maxRecDepth 100000 in
set_option maxHeartbeats 4000000 in
theorem rf_KindName (w : World) (k : Int) : Calls Tryz.prog 19 #[.int .i64 k] w fun e w' => e = .returned (.string ⟨(kindNm k).toArray⟩) ∧ w = w' := by
  by_cases h0 : k < 0
  · have hn : kindNm k = [] := by unfold kindNm; repeat' rw [if_neg (by omega)]
    have hd : decide (k < 0) = true := decide_eq_true h0
    have HN := Lib.hid hn; clear hn
    go_enter Tryz.func19, Tryz.ntmps19
    go_wp2_with fail
    go_ret
    exact ⟨by rw [HN.out]; rfl, rfl⟩
  · by_cases h4 : 4 < k
    · have hn : kindNm k = [] := by unfold kindNm; repeat' rw [if_neg (by omega)]
      have hd : decide (k < 0) = false := decide_eq_false h0
      have hd2 : decide (4 < k) = true := decide_eq_true h4
      have HN := Lib.hid hn; clear hn
      go_enter Tryz.func19, Tryz.ntmps19
      go_wp2_with fail
      go_ret
      exact ⟨by rw [HN.out]; rfl, rfl⟩
    · have hd : decide (k < 0) = false := decide_eq_false h0
      have hd2 : decide (4 < k) = false := decide_eq_false h4
      have hx := kn_at k (by omega)
      go_enter Tryz.func19, Tryz.ntmps19
      go_wp2_with fail
      go_ret
      exact ⟨rfl, rfl⟩
set_option maxRecDepth 100000 in
set_option maxHeartbeats 4000000 in
theorem rf_Kind (w : World) (s : Wd) : Calls Tryz.prog 72 #[.string ⟨s.toArray⟩] w fun e w' => e = .returned (.int .i64 (kindW s)) ∧ w = w' := by
  go_enter Tryz.func72, Tryz.ntmps72
  go_wp2_with fail
  go_loopw [3] (fun i wz => ∃ k : Int, 0 ≤ k ∧ k ≤ 5 ∧ i = .int .i64 k ∧ Hid (∀ j : Int, 0 ≤ j → j < k → kindNm j ≠ s) ∧ w = wz) (fun i _ => 5 - (intOf i).toNat)
  case atStart => exact ⟨0, by omega, by omega, rfl, Lib.hid (by intro j h1 h2; omega), rfl⟩
  case round =>
    obtain ⟨k, hk0, hk1, rfl, HF, rfl⟩ := hrel
    by_cases hk : k ≤ 4
    · go_wp2_with fail
      refine (rf_KindName _ k).mono ?_
      rintro e w1 ⟨rfl, rfl⟩
      by_cases hs : kindNm k = s
      · have hr := kindW_of k s ⟨hk0, hk⟩ hs
        have hse : (kindNm k == s) = true := by simp [hs]
        have HR := Lib.hid hr
        clear hs hr
        go_wp2_with fail
        go_ret
        exact ⟨by rw [HR.out]; rfl, rfl⟩
      · have hse : (kindNm k == s) = false := by simp [hs]
        have HS := Lib.hid hs; clear hs
        go_wp2_with fail
        go_roundw
        all_goals first | exact ⟨⟨k + 1, by omega, by omega, rfl, Lib.hid (fun j h1 h2 => if e : j = k then by rw [e]; exact HS.out else HF.out j h1 (by omega)), trivial⟩, by simp [intOf]; omega⟩ | exact ⟨k + 1, by omega, by omega, rfl, Lib.hid (fun j h1 h2 => if e : j = k then by rw [e]; exact HS.out else HF.out j h1 (by omega)), by first | rfl | trivial⟩ | (simp [intOf]; omega)
    · have hr := kindW_no s (by have := HF.out; intro j h1 h2; exact this j h1 (by omega))
      have HR := Lib.hid hr
      clear hr
      go_wp2_with fail
      go_ret
      exact ⟨by rw [HR.out]; rfl, rfl⟩
set_option maxRecDepth 100000 in
set_option maxHeartbeats 4000000 in
theorem rf_kindsOf (w : World) (L : List Nat) (a0 : Option Addr) (c0 : Nat) (ws : List Wd) (h : Src w L (.slice a0 ws.length c0) ws.length (strs ws)) (hl : ws.length ≤ 1099511627776) :
    Calls Tryz.prog 70 #[.slice a0 ws.length c0] w fun e w' => Tch [] w w' ∧ KindsTo 3 w w' ws e := by
  obtain ⟨i0, hi, hz0, hz1, hz2⟩ := info_parts info_intT
  go_enter Tryz.func70, Tryz.ntmps70
  go_wp2_with fail
  go_loopw [4, 5] (fun o i wz => ∃ (k : Nat) (ks : List Int) (v : Value), k ≤ ws.length ∧ o = v ∧ i = .int .i64 k ∧ ks.length = k ∧ kindsP UU ws = (kindsP UU (ws.drop k)).map (ks ++ ·) ∧ NewRow w wz 3 1 v ks.length (ints ks) ∧ Tch [] w wz) (fun _ i _ => ws.length - (intOf i).toNat)
  case atStart => exact ⟨0, [], .slice none 0 0, by omega, rfl, rfl, rfl, by simp, NewRow.nil _ _ _ _, Tch.refl _ _⟩
  case round =>
    obtain ⟨k, ks, v, hk1, rfl, rfl, hkl, hkd, hv, ht⟩ := hrel
    by_cases hk : k < ws.length
    · obtain ⟨ad, rfl, _, _, hq⟩ := Src.at (h.tch ht (by simp)) (j := k) (by simpa using hk)
      have hq0 : wr.cell? (ad.add k) = some (.string ⟨ws[k].toArray⟩) := by simpa [strs] using hq
      clear hq
      have hks : kindsP UU (ws.drop k) = if kindW ws[k] ≤ 0 then none else (kindsP UU (ws.drop (k + 1))).map (kindW ws[k] :: ·) := by
        rw [List.drop_eq_getElem_cons hk]; rfl
      rw [hks] at hkd
      clear hks
      generalize ws[k] = wd at *
      have HK := Lib.hid hkd; clear hkd
      have HL := Lib.hid hkl; clear hkl
      go_wp2_with fail
      refine (rf_Kind wr wd).mono ?_
      rintro e w1 ⟨rfl, rfl⟩
      by_cases hz : kindW wd ≤ 0
      · have HZ := Lib.hid hz
        have hd : decide (kindW wd < 1) = true := decide_eq_true (by omega)
        clear hz
        go_wp2_with fail
        go_ret2
        refine ⟨ht, ?_⟩
        unfold KindsTo
        rw [HK.out, if_pos (by have := HZ.out; omega)]
        rfl
      · have HZ := Lib.hid hz
        have hd : decide (kindW wd < 1) = false := decide_eq_false (by omega)
        clear hz
        have hown := hv.1
        have hbnd : ks.length + 1 ≤ 9223372036854775807 ∧ (ks.length + 1) * 8 ≤ 140737488355328 := by have := HL.out; omega
        have hsz := ht.size
        go_wp2_with (first | (at_builtin; refine wpList_append_any _ rfl (.tmp 20) (.tmp 22) 23 rfl 3 i0 (.int .i64 0) 1 8 Tryz.underlying23 hi hz0 hz1 hz2 rfl (by decide) _ ks.length (ints ks) rfl (hown.alloc _) [] _ 1 [.int .i64 (kindW wd)] rfl (src_new wr _ [] #[.int .i64 (kindW wd)] _ 1 1 (Tch.refl [] _) (by simp)) rfl (by intro u hu; simp at hu; subst hu; rfl) hbnd ?_; intro ao cap w2 hown2 hgrow hat) | fail)
        have ht2 : Tch [] w w2 := (ht.alloc _).grew hgrow hv.2
        have hv2 := NewRow.of (w := w) hv.2 (by simp; omega) hown2 hat
        go_roundw
        case rel =>
          refine ⟨k + 1, ks ++ [kindW wd], _, by omega, rfl, by go_num, by simp [HL.out], ?_, by rw [ints_append, List.length_append]; exact hv2, ht2⟩
          rw [HK.out, if_neg (by have := HZ.out; omega)]
          cases kindsP UU (ws.drop (k + 1)) <;> simp
        case measure => simp [intOf]; omega
    · have hn : kindsP UU ws = some ks := by
        rw [hkd, List.drop_eq_nil_of_le (by omega)]; simp [kindsP]
      clear hkd
      have HN := Lib.hid hn; clear hn
      have HL := Lib.hid hkl; clear hkl
      go_wp2_with fail
      go_ret2
      refine ⟨ht, ?_⟩
      unfold KindsTo
      rw [HN.out]
      exact ⟨_, rfl, hv⟩
set_option maxRecDepth 100000 in
set_option maxHeartbeats 4000000 in
theorem rf_split (w : World) (l : Wd) (hl : l.length ≤ 1099511627776) :
    Calls Tryz.prog 32 #[.string ⟨l.toArray⟩] w fun e w' => ∃ v, e = .returned v ∧ NewRow w w' 9 1 v (spR l []).length (strs (spR l [])) ∧ Tch [] w w' := by
  obtain ⟨i0, hi, hz0, hz1, hz2⟩ := info_parts info_strT
  have hsz : (⟨l.toArray⟩ : ByteArray).size = l.length := by simp [ByteArray.size]
  go_enter Tryz.func32, Tryz.ntmps32
  go_wp2_with fail
  go_loopw [3, 4, 5] (fun o x i wz => ∃ (k : Nat) (ws : List Wd) (cur : Wd) (v : Value), k ≤ l.length + 1 ∧ Hid (spR l [] = if k ≤ l.length then ws ++ spR (l.drop k) cur else ws) ∧ o = v ∧ x = .string ⟨cur.toArray⟩ ∧ i = .int .i64 k ∧ cur.length ≤ k ∧ ws.length ≤ k ∧ NewRow w wz 9 1 v ws.length (strs ws) ∧ Tch [] w wz) (fun _ _ i _ => l.length + 2 - (intOf i).toNat)
  case atStart => exact ⟨0, [], [], .slice none 0 0, by omega, Lib.hid (by simp), rfl, rfl, rfl, by simp, by simp, NewRow.nil _ _ _ _, Tch.refl [] w⟩
  case round =>
    obtain ⟨k, ws, cur, v, hk, hsp, rfl, rfl, rfl, hcl, hwl, hv, ht⟩ := hrel
    by_cases hkl : k ≤ l.length
    · have hspo := hsp.out
      rw [if_pos hkl] at hspo
      clear hsp
      have hle : decide ((k : Int) ≤ (l.length : Int)) = true := decide_eq_true (by omega)
      have hown := hv.1
      have hbnd : ws.length + 1 ≤ 9223372036854775807 ∧ (ws.length + 1) * 16 ≤ 140737488355328 := by omega
      by_cases hkn : k = l.length
      · have hkk : ((k : Int) == (l.length : Int)) = true := by simp [hkn]
        have hlt : decide ((k : Int) < (l.length : Int)) = false := decide_eq_false (by omega)
        have hfin : spR l [] = ws ++ flW cur := by rw [hspo, hkn, List.drop_length]; rfl
        have HS := Lib.hid hfin
        have HK := Lib.hid hkn
        clear hspo hfin hkn
        by_cases hcu : cur = []
        · have HC := Lib.hid hcu
          have hb : (cur == []) = true := by simp [hcu]
          have hb2 : cur.isEmpty = true := by simp [hcu]
          clear hcu
          go_wp2_with fail
          go_roundw
          case rel =>
            have hcn := HC.out
            have hso := HS.out
            simp only [hcn, flW, if_true, List.append_nil] at hso
            exact ⟨k + 1, ws, [], _, by omega, Lib.hid (by rw [hso, if_neg (by have := HK.out; omega)]), rfl, rfl, by go_num, by simp, by first | omega | (simp; omega), hv, ht⟩
          case measure => simp [intOf]; omega
        · have HC := Lib.hid hcu
          have hb : (cur == []) = false := by simp [hcu]
          have hb2 : cur.isEmpty = false := by simp [hcu]
          clear hcu
          go_wp2_with (first | (at_builtin; refine wpList_append_any _ rfl (.tmp 30) (.tmp 32) 61 rfl 9 i0 (.string ⟨#[]⟩) 1 16 Tryz.underlying61 hi hz0 hz1 hz2 rfl (by decide) _ ws.length (strs ws) rfl (hown.alloc _) [] _ 1 [.string ⟨cur.toArray⟩] rfl (src_new wr _ [] #[.string ⟨cur.toArray⟩] _ 1 1 (Tch.refl [] _) (by simp)) rfl (one_str cur) hbnd ?_; intro ao cap w3 hown3 hgrow hat) | fail)
          have b14 := hv.2
          have b15 := ht.size
          have b18 := NewRow.of b14 (by simp; omega) hown3 hat
          have b19 := (ht.alloc _).grew hgrow b14
          have HH := Lib.hid (And.intro b18 b19)
          clear b18 b19 hown3 hgrow hat
          go_roundw
          case rel =>
            have hcn := HC.out
            have hso := HS.out
            simp only [flW, if_neg hcn] at hso
            exact ⟨k + 1, (ws ++ [cur]), [], _, by omega, Lib.hid (by rw [hso, if_neg (by have := HK.out; omega)]), rfl, rfl, by go_num, by simp, by first | omega | (simp; omega), (by rw [List.length_append, strs_append]; exact HH.out.1), HH.out.2⟩
          case measure => simp [intOf]; omega
      · have hkl2 : k < l.length := by omega
        have hlt : decide ((k : Int) < (l.length : Int)) = true := decide_eq_true (by omega)
        have hkk : ((k : Int) == (l.length : Int)) = false := by simp; omega
        obtain ⟨c, hc⟩ : ∃ c, l[k] = c := ⟨_, rfl⟩
        have hgk : ∀ h, (⟨l.toArray⟩ : ByteArray)[k]'h = c := fun _ => hc
        have hgl : ∀ h, l[k]'h = c := fun _ => hc
        have hex : (⟨l.toArray⟩ : ByteArray).extract k (k + 1) = ⟨[c].toArray⟩ := one_byte l k c hkl2 hc
        have hdr : l.drop k = c :: l.drop (k + 1) := by rw [← hc]; exact List.drop_eq_getElem_cons hkl2
        rw [hdr] at hspo
        clear hdr hkn hc
        have HK := Lib.hid hkl2
        by_cases h32 : c = 32
        · have hc32 : ((c.toNat : Int) == 32) = true := by subst h32; decide
          have hc35 : ((c.toNat : Int) == 35) = false := by subst h32; decide
          rw [show spR (c :: l.drop (k + 1)) cur = flW cur ++ spR (l.drop (k + 1)) [] by rw [h32]; rfl, ← List.append_assoc] at hspo
          have HS := Lib.hid hspo
          clear hspo h32
          by_cases hcu : cur = []
          · have HC := Lib.hid hcu
            have hb : (cur == []) = true := by simp [hcu]
            have hb2 : cur.isEmpty = true := by simp [hcu]
            clear hcu
            go_wp2_with fail
            go_roundw
            case rel =>
              have hcn := HC.out
              have hso := HS.out
              simp only [hcn, flW, if_true, List.append_nil] at hso
              exact ⟨k + 1, ws, [], _, by omega, Lib.hid (by rw [hso, if_pos (by have := HK.out; omega)]), rfl, rfl, by go_num, by simp, by first | omega | (simp; omega), hv, ht⟩
            case measure => simp [intOf]; omega
          · have HC := Lib.hid hcu
            have hb : (cur == []) = false := by simp [hcu]
            have hb2 : cur.isEmpty = false := by simp [hcu]
            clear hcu
            go_wp2_with (first | (at_builtin; refine wpList_append_any _ rfl (.tmp 30) (.tmp 32) 61 rfl 9 i0 (.string ⟨#[]⟩) 1 16 Tryz.underlying61 hi hz0 hz1 hz2 rfl (by decide) _ ws.length (strs ws) rfl (hown.alloc _) [] _ 1 [.string ⟨cur.toArray⟩] rfl (src_new wr _ [] #[.string ⟨cur.toArray⟩] _ 1 1 (Tch.refl [] _) (by simp)) rfl (one_str cur) hbnd ?_; intro ao cap w3 hown3 hgrow hat) | fail)
            have b14 := hv.2
            have b15 := ht.size
            have b18 := NewRow.of b14 (by simp; omega) hown3 hat
            have b19 := (ht.alloc _).grew hgrow b14
            have HH := Lib.hid (And.intro b18 b19)
            clear b18 b19 hown3 hgrow hat
            go_roundw
            case rel =>
              have hcn := HC.out
              have hso := HS.out
              simp only [flW, if_neg hcn] at hso
              exact ⟨k + 1, (ws ++ [cur]), [], _, by omega, Lib.hid (by rw [hso, if_pos (by have := HK.out; omega)]), rfl, rfl, by go_num, by simp, by first | omega | (simp; omega), (by rw [List.length_append, strs_append]; exact HH.out.1), HH.out.2⟩
            case measure => simp [intOf]; omega
        · by_cases h35 : c = 35
          · have hc32 : ((c.toNat : Int) == 32) = false := by subst h35; decide
            have hc35 : ((c.toNat : Int) == 35) = true := by subst h35; decide
            rw [show spR (c :: l.drop (k + 1)) cur = flW cur by rw [h35]; rfl] at hspo
            have HS := Lib.hid hspo
            clear hspo h32 h35
            by_cases hcu : cur = []
            · have HC := Lib.hid hcu
              have hb : (cur == []) = true := by simp [hcu]
              have hb2 : cur.isEmpty = true := by simp [hcu]
              clear hcu
              go_wp2_with fail
              go_ret
              refine ⟨_, rfl, ?_⟩
              rw [HS.out]
              have hcn := HC.out
              simp only [hcn, flW, if_true, List.append_nil]
              exact ⟨hv, ht⟩
            · have HC := Lib.hid hcu
              have hb : (cur == []) = false := by simp [hcu]
              have hb2 : cur.isEmpty = false := by simp [hcu]
              clear hcu
              go_wp2_with (first | (at_builtin; refine wpList_append_any _ rfl (.tmp 30) (.tmp 32) 61 rfl 9 i0 (.string ⟨#[]⟩) 1 16 Tryz.underlying61 hi hz0 hz1 hz2 rfl (by decide) _ ws.length (strs ws) rfl (hown.alloc _) [] _ 1 [.string ⟨cur.toArray⟩] rfl (src_new wr _ [] #[.string ⟨cur.toArray⟩] _ 1 1 (Tch.refl [] _) (by simp)) rfl (one_str cur) hbnd ?_; intro ao cap w3 hown3 hgrow hat) | fail)
              have b14 := hv.2
              have b15 := ht.size
              have b18 := NewRow.of b14 (by simp; omega) hown3 hat
              have b19 := (ht.alloc _).grew hgrow b14
              have HH := Lib.hid (And.intro b18 b19)
              clear b18 b19 hown3 hgrow hat
              go_ret
              refine ⟨_, rfl, ?_⟩
              rw [HS.out]
              have hcn := HC.out
              simp only [flW, if_neg hcn]
              rw [List.length_append, strs_append]
              exact HH.out
          · have hc32 : ((c.toNat : Int) == 32) = false := by
              have : c.toNat ≠ 32 := fun e => h32 (UInt8.toNat_inj.1 e)
              simp; omega
            have hc35 : ((c.toNat : Int) == 35) = false := by
              have : c.toNat ≠ 35 := fun e => h35 (UInt8.toNat_inj.1 e)
              simp; omega
            rw [show spR (c :: l.drop (k + 1)) cur = spR (l.drop (k + 1)) (cur ++ [c]) by rw [spR, if_neg h35, if_neg h32]] at hspo
            have HS := Lib.hid hspo
            clear hspo h32 h35
            have hz2 : ¬ 9223372036854775807 < cur.length + 1 := by omega
            go_wp2_with fail
            go_roundw
            case rel => exact ⟨k + 1, ws, cur ++ [c], _, by omega, Lib.hid (by rw [HS.out, if_pos (by have := HK.out; omega)]), rfl, by rw [strcat], by go_num, by simp; omega, by omega, hv, ht⟩
            case measure => simp [intOf]; omega
    · have hso := hsp.out
      rw [if_neg hkl] at hso
      have HS := Lib.hid hso
      clear hso hsp
      have hle : decide ((k : Int) ≤ (l.length : Int)) = false := decide_eq_false (by omega)
      go_wp2_with fail
      go_ret
      exact ⟨_, rfl, by rw [HS.out]; exact ⟨hv, ht⟩⟩
end Go.Proofs.YteebapopeaafhaaGreatDoor
namespace Go.Tcn
open Go.RowKit
/-- One digit's text. -/
theorem str_dig (u : Nat) (h : u < 10) : strOfNums [(48 + (u : Int))] = (⟨[UInt8.ofNat (48 + u)].toArray⟩ : ByteArray) := by
  match u, h with
  | 0, _ => rfl
  | 1, _ => rfl
  | 2, _ => rfl
  | 3, _ => rfl
  | 4, _ => rfl
  | 5, _ => rfl
  | 6, _ => rfl
  | 7, _ => rfl
  | 8, _ => rfl
  | 9, _ => rfl
theorem dec_len1 (u : Nat) : (Lib.decDigits u).length ≤ u + 1 := by
  induction u using Nat.strongRecOn with
  | ind u ih =>
    by_cases h : u < 10
    · rw [below_lt u h]; simp
    · rw [below_ge u h]
      have := ih (u / 10) (by omega)
      simp only [List.length_append, List.length_cons, List.length_nil]
      omega
/-- One more byte behind a text. -/
theorem str_app (a b : Wd) : (⟨a.toArray⟩ : ByteArray) ++ ⟨b.toArray⟩ = ⟨(a ++ b).toArray⟩ := by
  apply ByteArray.ext
  simp
end Go.Tcn
namespace Go.Proofs.YteebapopeaafhaaGreatDoor
open Go.RowKit Go.Tcn
set_option linter.unusedVariables false
set_option linter.unusedSimpArgs false
set_option maxRecDepth 100000 in
set_option maxHeartbeats 4000000 in
theorem rf_below : ∀ (u : Nat) (w : World), u ≤ 9223372036854775808 →
    Calls Tryz.prog 56 #[.int .i64 (-(u : Int))] w fun e w' => e = .returned (.string ⟨(Lib.decDigits u).toArray⟩) ∧ Tch [] w w' := by
  intro u
  induction u using Nat.strongRecOn with
  | ind u ih =>
    intro w hu
    by_cases h10 : u < 10
    · have hd : decide ((u : Int) < 10) = true := decide_eq_true (by omega)
      have hs1 := run_str (P := Tryz.prog) 74 5 9 Tryz.underlying74 Tryz.underlying5 Tryz.underlying9 (l := [(48 + (u : Int))]) (src_new w _ [] #[.int .u8 (48 + (u : Int))] 5 1 1 (fr := (0, 0)) (Tch.refl [] _) (by simp))
      rw [str_dig u h10, ← below_lt u h10] at hs1
      go_enter Tryz.func56, Tryz.ntmps56
      go_wp2_with fail
      go_ret
      exact ⟨rfl, (Tch.refl [] w).alloc _⟩
    · have hd : decide ((u : Int) < 10) = false := decide_eq_false (by omega)
      have hdv := below_div u
      have hmd := below_mod u
      have hlt : u % 10 < 10 := Nat.mod_lt _ (by omega)
      have hq : u / 10 < u := by omega
      have hih := fun w => ih (u / 10) hq w (by omega)
      have hge := below_ge u h10
      have hlen := dec_len1 (u / 10)
      have hlc : ¬ (9223372036854775807 < (Lib.decDigits (u / 10)).length + 1) := by omega
      clear ih
      generalize u / 10 = q at *
      generalize u % 10 = r at *
      have w1 : IntKind.i64.wrap (-(q : Int)) = -(q : Int) := IntWalk.i64_in _ (by omega)
      have w2 : IntKind.i64.wrap (48 + (r : Int)) = 48 + (r : Int) := IntWalk.i64_in _ (by omega)
      have w3 : IntKind.u8.wrap (48 + (r : Int)) = 48 + (r : Int) := IntWalk.u8_in _ (by omega)
      have hs0 := fun (wx : World) => run_str (P := Tryz.prog) 74 5 9 Tryz.underlying74 Tryz.underlying5 Tryz.underlying9 (l := [(48 + (r : Int))]) (src_new wx _ [] #[.int .u8 (48 + (r : Int))] 5 1 1 (fr := (0, 0)) (Tch.refl [] _) (by simp))
      have hs00 := fun (wx : World) => run_str (P := Tryz.prog) 74 5 9 Tryz.underlying74 Tryz.underlying5 Tryz.underlying9 (l := [(48 + (r : Int))]) (src_new wx _ [] #[.int .u8 (48 + (r : Int))] 5 1 1 (fr := (0, 0)) (Tch.refl [] _).drew (by simp))
      have hdg := str_dig r hlt
      generalize UInt8.ofNat (48 + r) = dg at *
      rw [hdg] at hs0 hs00
      go_enter Tryz.func56, Tryz.ntmps56
      go_upto_region 3 with fail
      go_region_law (first | (go_simp; go_at_call 56; refine (hih _).mono ?_; rintro e w1 ⟨rfl, t1⟩; have hs1 : (convert 74 9 (.slice (some ⟨w.heap.size, 0, none⟩) 1 1)).run Tryz.prog w1 = .ok (.string ⟨[dg].toArray⟩) w1 := hdg ▸ run_str (P := Tryz.prog) 74 5 9 Tryz.underlying74 Tryz.underlying5 Tryz.underlying9 (l := [(48 + (r : Int))]) (src_new w.drew _ [] #[.int .u8 (48 + (r : Int))] 5 1 1 (fr := (0, 0)) t1 (by simp))) | (go_simp; go_at_call 56; refine (hih _).mono ?_; rintro e w1 ⟨rfl, t1⟩))
      all_goals
        go_wp2_with fail
        go_ret
        refine ⟨by rw [hge]; exact congrArg (fun x => Ending.returned (.string x)) (str_app _ _), ?_⟩
        first | exact (((Tch.refl [] w).drew).then t1).alloc _ | exact (((Tch.refl [] w).alloc _).drew).then t1 | exact ((((Tch.refl [] w).drew).alloc _)).then t1
set_option maxRecDepth 100000 in
set_option maxHeartbeats 4000000 in
theorem rf_Digits (w : World) (n : Int) (hn : -9223372036854775808 ≤ n ∧ n ≤ 9223372036854775807) :
    Calls Tryz.prog 23 #[.int .i64 n] w fun e w' => e = .returned (.string ⟨(Lib.itoa n).toArray⟩) ∧ Tch [] w w' := by
  have hd := digits_doc n
  by_cases h0 : n < 0
  · rw [if_pos h0] at hd
    obtain ⟨u, rfl⟩ : ∃ u : Nat, n = -(u : Int) := ⟨n.natAbs, by omega⟩
    have hu : u ≤ 9223372036854775808 := by omega
    have hb := fun w => rf_below u w hu
    have hna : (-(u : Int)).natAbs = u := by omega
    rw [hna] at hd
    have h0u : 0 < u := by omega
    have hlen := dec_len1 u
    have hu2 : (Lib.decDigits u).length ≤ 20 := dec_len 19 u (by omega)
    have hlc : ¬ (9223372036854775807 < 1 + (Lib.decDigits u).length) := by omega
    have hlc2 : ¬ (9223372036854775807 < (Lib.decDigits u).length + 1) := by omega
    go_enter Tryz.func23, Tryz.ntmps23
    go_wp2_with fail
    refine (hb _).mono ?_
    rintro e w1 ⟨rfl, t1⟩
    go_wp2_with fail
    go_ret
    exact ⟨by rw [hd]; exact congrArg (fun x => Ending.returned (.string x)) (str_app [45] _), t1⟩
  · rw [if_neg h0] at hd
    obtain ⟨u, rfl⟩ : ∃ u : Nat, n = (u : Int) := ⟨n.toNat, by omega⟩
    have hu : u ≤ 9223372036854775808 := by omega
    have hb := fun w => rf_below u w hu
    have hna : (-(u : Int)).natAbs = u := by omega
    rw [hna] at hd
    have w1 : IntKind.i64.wrap (-(u : Int)) = -(u : Int) := IntWalk.i64_in _ (by omega)
    go_enter Tryz.func23, Tryz.ntmps23
    go_wp2_with fail
    refine (hb _).mono ?_
    rintro e w1 ⟨rfl, t1⟩
    go_wp2_with fail
    go_ret
    exact ⟨by rw [hd]; rfl, t1⟩
end Go.Proofs.YteebapopeaafhaaGreatDoor
namespace Go.Tcn
open Go.RowKit
theorem drop_one (l : Wd) : (⟨l.toArray⟩ : ByteArray).extract 1 l.length = ⟨(l.drop 1).toArray⟩ := by
  apply ByteArray.ext
  apply Array.toList_inj.1
  rw [Lib.extract_data]
  show (l.drop 1).take (l.length - 1) = l.drop 1
  exact List.take_of_length_le (by simp)
/-- A word's sign. -/
def sgW (w : Wd) : Int := if w.head? = some 45 then -1 else 1
end Go.Tcn
namespace Go.Proofs.YteebapopeaafhaaGreatDoor
open Go.RowKit Go.Tcn
set_option linter.unusedVariables false
set_option linter.unusedSimpArgs false
set_option maxRecDepth 100000 in
set_option maxHeartbeats 4000000 in
theorem rf_number (w : World) (wd : Wd) (hl : wd.length ≤ 1099511627776) :
    Calls Tryz.prog 71 #[.string ⟨wd.toArray⟩] w fun e w' => e = .returned (numTo wd) ∧ w = w' := by
  have hbl : (bodyOf wd).length ≤ wd.length := by unfold bodyOf; split <;> simp
  have hsw : (⟨wd.toArray⟩ : ByteArray).size = wd.length := by simp [ByteArray.size]
  go_enter Tryz.func71, Tryz.ntmps71
  go_upto_region 2 with fail
  go_cut [14] (fun v wz => v = .bool (negW wd) ∧ w = wz)
  case first =>
    match wd, hsw with
    | [], hsw =>
      go_wp2_with fail
      go_meet
      exact ⟨rfl, rfl⟩
    | c :: r, hsw =>
      have hc0 : ∀ h, (⟨(c :: r).toArray⟩ : ByteArray)[0]'h = c := fun _ => rfl
      have hd : decide ((0 : Int) < (r.length : Int) + 1) = true := decide_eq_true (by omega)
      have hlc : (c :: r).length = r.length + 1 := rfl
      rw [hlc] at hsw
      have hc8 : ((c.toNat : Int) == 45) = negW (c :: r) := by
        unfold negW
        by_cases h : c = 45
        · simp [h]
        · have : c.toNat ≠ 45 := fun e => h (UInt8.toNat_inj.1 e)
          simp [h]; omega
      go_wp2_with fail
      go_meet
      exact ⟨rfl, rfl⟩
  case rest =>
   obtain ⟨rfl, rfl⟩ := hcut
   go_upto_if 14 with fail
   go_cut [0, 4] (fun s g wz => s = .string ⟨(bodyOf wd).toArray⟩ ∧ g = .int .i64 (sgW wd) ∧ w = wz)
   case first =>
    cases hn : negW wd
    · have hb : bodyOf wd = wd := by unfold bodyOf; rw [if_neg (of_decide_eq_false hn)]
      have hs : sgW wd = 1 := by unfold sgW; rw [if_neg (of_decide_eq_false hn)]
      go_wp2_with fail
      go_meet
      exact ⟨by rw [hb], by rw [hs], rfl⟩
    · have hh := of_decide_eq_true hn
      have hb : bodyOf wd = wd.drop 1 := by unfold bodyOf; rw [if_pos hh]
      have hs : sgW wd = -1 := by unfold sgW; rw [if_pos hh]
      have h1 : 1 ≤ wd.length := by cases wd with
        | nil => cases hh
        | cons => simp
      have hx : (⟨wd.toArray⟩ : ByteArray).extract 1 wd.length = ⟨(wd.drop 1).toArray⟩ := drop_one wd
      have HH := Lib.hid hh
      clear hh
      go_wp2_with fail
      go_meet
      exact ⟨by rw [hb, List.drop_one], by rw [hs], rfl⟩
   case rest =>
    obtain ⟨rfl, rfl, rfl⟩ := hcut
    have hR : numTo wd = match numR wd with
      | none => .tuple #[.int .i64 0, .bool false]
      | some n => .tuple #[.int .i64 n, .bool true] := by rw [num_doc]; rfl
    unfold numR at hR
    obtain ⟨bd, hbd⟩ : ∃ bd, bodyOf wd = bd := ⟨_, rfl⟩
    rw [hbd] at hR hbl ⊢
    have hw48 : wd = [48] ↔ bd = [48] ∧ ¬ wd.head? = some 45 := by
      constructor
      · intro e
        rw [e] at hbd
        exact ⟨hbd.symm.trans (by decide), by rw [e]; decide⟩
      · intro ⟨e1, e2⟩
        exact (body_zero wd (hbd.trans e1)).2 e2
    clear hbd
    have hsz : (⟨bd.toArray⟩ : ByteArray).size = bd.length := by simp [ByteArray.size]
    obtain ⟨bad, hbad⟩ : ∃ bad : Bool, bad = decide (bd.length < 1 ∨ 10 < bd.length ∨ (1 < bd.length ∧ bd.head? = some 48) ∨ (wd.head? = some 45 ∧ bd = [48])) := ⟨_, rfl⟩
    have HB := Lib.hid hbad
    have HR := Lib.hid hR
    have HW := Lib.hid hw48
    clear hbad hR hw48
    go_upto_region 5 with fail
    go_cut [42] (fun v wz => v = .bool bad ∧ w = wz)
    case first =>
     match bd, HB, hsz with
     | [], HB, hsz =>
      have hb := HB.out
      simp at hb
      subst hb
      go_wp2_with fail
      go_meet
      exact ⟨rfl, rfl⟩
     | c :: r, HB, hsz =>
      have hc0 : ∀ h, (⟨(c :: r).toArray⟩ : ByteArray)[0]'h = c := fun _ => rfl
      have hlc : (c :: r).length = r.length + 1 := rfl
      rw [hlc] at hsz
      have hb := HB.out
      simp only [List.length_cons, List.head?_cons, Option.some.injEq] at hb
      have hd1 : decide ((r.length : Int) + 1 < 1) = false := decide_eq_false (by omega)
      by_cases h10 : 10 < r.length + 1
      · have hd2 : decide ((10 : Int) < (r.length : Int) + 1) = true := decide_eq_true (by omega)
        have hbt : bad = true := by rw [hb]; simp [h10]
        clear hb
        go_wp2_with fail
        go_meet
        exact ⟨by rw [hbt], rfl⟩
      · have hd2 : decide ((10 : Int) < (r.length : Int) + 1) = false := decide_eq_false (by omega)
        by_cases h48 : c = 48
        · have hc1 : ((c.toNat : Int) == 48) = true := by rw [h48]; decide
          by_cases hr : r = []
          · subst hr h48
            by_cases hn : wd.head? = some 45
            · have hs : decide (sgW wd < 0) = true := by unfold sgW; rw [if_pos hn]; decide
              have hbt : bad = true := by rw [hb]; simp [hn]
              have HN := Lib.hid hn
              clear hb hn
              go_wp2_with fail
              go_meet
              exact ⟨by rw [hbt], rfl⟩
            · have hs : decide (sgW wd < 0) = false := by unfold sgW; rw [if_neg hn]; decide
              have hbt : bad = false := by rw [hb]; simp [hn]
              have HN := Lib.hid hn
              clear hb hn
              go_wp2_with fail
              go_meet
              exact ⟨by rw [hbt], rfl⟩
          · have hr1 : 1 ≤ r.length := by cases r with
              | nil => exact absurd rfl hr
              | cons => simp
            have hd3 : decide ((1 : Int) < (r.length : Int) + 1) = true := decide_eq_true (by omega)
            have hbt : bad = true := by rw [hb]; simp [h48]; omega
            clear hb h48 hr
            go_wp2_with fail
            go_meet
            exact ⟨by rw [hbt], rfl⟩
        · have hc1 : ((c.toNat : Int) == 48) = false := by
            have : c.toNat ≠ 48 := fun e => h48 (UInt8.toNat_inj.1 e)
            simp; omega
          have hbt : bad = false := by rw [hb]; simp [h10, h48]
          have hc2 : (c == 48) = false := beq_eq_false_iff_ne.2 h48
          have hcr : ((c :: r) == [48]) = false := by
            apply beq_eq_false_iff_ne.2
            intro e
            exact h48 (List.cons.inj e).1
          clear hb h48
          by_cases hn : wd.head? = some 45
          · have hs : decide (sgW wd < 0) = true := by unfold sgW; rw [if_pos hn]; decide
            have HN := Lib.hid hn
            clear hn
            go_wp2_with fail
            all_goals (go_meet; exact ⟨by rw [hbt], rfl⟩)
          · have hs : decide (sgW wd < 0) = false := by unfold sgW; rw [if_neg hn]; decide
            have HN := Lib.hid hn
            clear hn
            go_wp2_with fail
            all_goals (go_meet; exact ⟨by rw [hbt], rfl⟩)
    case rest =>
     obtain ⟨rfl, rfl⟩ := hcut
     cases bad
     · have hb := HB.out
       have hbad := of_decide_eq_false hb.symm
       have hR := HR.out
       rw [if_neg hbad] at hR
       have hlen : bd.length ≤ 10 := by
         by_cases h : 10 < bd.length
         · exact absurd (.inr (.inl h)) hbad
         · omega
       clear hb hbad HB HW HR
       have HR := Lib.hid hR
       clear hR
       go_wp2_with fail
       go_loopw [5, 6] (fun x i wz => ∃ (pos : Nat) (n : Int), pos ≤ bd.length ∧ Hid (digV bd 0 = digV (bd.drop pos) n) ∧ x = .int .i64 n ∧ i = .int .i64 pos ∧ 0 ≤ n ∧ n < 10 ^ pos ∧ w = wz) (fun _ i _ => bd.length - (intOf i).toNat)
       case atStart => exact ⟨0, 0, by omega, Lib.hid rfl, rfl, rfl, by omega, by decide, rfl⟩
       case round =>
        obtain ⟨pos, n, hpl, hdg, rfl, rfl, hn0, hn1, rfl⟩ := hrel
        by_cases hp : pos < bd.length
        · have hlt : decide ((pos : Int) < (bd.length : Int)) = true := decide_eq_true (by omega)
          obtain ⟨c, hc⟩ : ∃ c, bd[pos] = c := ⟨_, rfl⟩
          have hgk : ∀ h, (⟨bd.toArray⟩ : ByteArray)[pos]'h = c := fun _ => hc
          have hgl : ∀ h, bd[pos]'h = c := fun _ => hc
          have hdr : bd.drop pos = c :: bd.drop (pos + 1) := by rw [← hc]; exact List.drop_eq_getElem_cons hp
          have hdv : digV (bd.drop pos) n = if 48 ≤ c.toNat ∧ c.toNat ≤ 57 then digV (bd.drop (pos + 1)) (10 * n + (c.toNat - 48 : Int)) else none := by rw [hdr]; rfl
          clear hdr hc
          have hp10 : (10 : Int) ^ pos ≤ 1000000000 := by
            have h9 : pos ≤ 9 := by omega
            have mono : ∀ k, k ≤ 9 → (10 : Int) ^ k ≤ 1000000000 := by
              intro k hk
              match k, hk with
              | 0, _ | 1, _ | 2, _ | 3, _ | 4, _ | 5, _ | 6, _ | 7, _ | 8, _ | 9, _ => decide
            exact mono pos h9
          have hps10 : (10 : Int) ^ (pos + 1) = 10 * 10 ^ pos := by rw [Int.pow_succ, Int.mul_comm]
          by_cases hd : 48 ≤ c.toNat ∧ c.toNat ≤ 57
          · rw [if_pos hd] at hdv
            have hdg2 := hdg.out
            rw [hdv] at hdg2
            have h1 : decide ((c.toNat : Int) < 48) = false := decide_eq_false (by omega)
            have h2 : decide ((57 : Int) < (c.toNat : Int)) = false := decide_eq_false (by omega)
            obtain ⟨hd1, hd2⟩ := hd
            have HH := Lib.hid (And.intro hdg2 (And.intro hps10 (And.intro hp10 (And.intro hn1 hp))))
            have hnn : n < 1000000000 := by omega
            have hci1 : 48 ≤ (c.toNat : Int) := by omega
            have hci2 : (c.toNat : Int) ≤ 57 := by omega
            have hw8 : IntKind.u8.wrap ((c.toNat : Int) - 48) = (c.toNat : Int) - 48 := by rw [u8_wrap]; omega
            clear hdg hdg2 hdv hps10 hp10 hn1 hd1 hd2
            go_wp2_with fail
            go_roundw
            case rel =>
              obtain ⟨q1, q2, q3, q4, q5⟩ := HH.out
              exact ⟨pos + 1, 10 * n + ((c.toNat : Int) - 48), by omega, Lib.hid q1, by first | rfl | (congr 1; omega) | trace_state, by go_num, by omega, by rw [q2]; omega, by first | rfl | trivial⟩
            case measure => simp [intOf]; omega
          · rw [if_neg hd] at hdv
            have hdg2 := hdg.out
            rw [hdv] at hdg2
            have hnn := HR.out
            rw [hdg2] at hnn
            have HN2 := Lib.hid hnn
            clear hnn hdg2 hdg hdv HR hps10 hp10 hn1
            by_cases h48 : c.toNat < 48
            · have h1 : decide ((c.toNat : Int) < 48) = true := decide_eq_true (by omega)
              clear hd
              go_wp2_with fail
              go_ret2
              exact ⟨by rw [HN2.out]; rfl, rfl⟩
            · have h1 : decide ((c.toNat : Int) < 48) = false := decide_eq_false (by omega)
              have h2 : decide ((57 : Int) < (c.toNat : Int)) = true := decide_eq_true (by omega)
              clear hd
              go_wp2_with fail
              go_ret2
              exact ⟨by rw [HN2.out]; rfl, rfl⟩
        · have hlt : decide ((pos : Int) < (bd.length : Int)) = false := decide_eq_false (by omega)
          have hnn := HR.out
          rw [hdg.out, List.drop_eq_nil_of_le (by omega)] at hnn
          simp only [digV, Option.map_some] at hnn
          have hn10 : n < 10000000000 := by
            have mono : ∀ k, k ≤ 10 → (10 : Int) ^ k ≤ 10000000000 := by
              intro k hk
              match k, hk with
              | 0, _ | 1, _ | 2, _ | 3, _ | 4, _ | 5, _ | 6, _ | 7, _ | 8, _ | 9, _ | 10, _ => decide
            have := mono pos (by omega)
            omega
          have hsg : sgW wd = 1 ∨ sgW wd = -1 := by unfold sgW; split <;> simp
          have hpw : wrap64 (sgW wd * n) = sgW wd * n := by
            apply IntWalk.wrap64_in
            rcases hsg with e | e <;> rw [e] <;> constructor <;> omega
          have hnn2 : numTo wd = .tuple #[.int .i64 (wrap64 (sgW wd * n)), .bool true] := by rw [hpw]; exact hnn
          have HN2 := Lib.hid hnn2
          clear hdg HR hn1 hnn hnn2 hsg hpw
          go_wp2_with fail
          go_ret2
          exact ⟨by rw [HN2.out]; rfl, rfl⟩
     · have hb := HB.out
       have hbad := of_decide_eq_true hb.symm
       have hR := HR.out
       rw [if_pos hbad] at hR
       have HN := Lib.hid hR
       clear hR hb hbad HB HW HR
       go_wp2_with fail
       go_ret2
       exact ⟨by rw [HN.out]; rfl, rfl⟩
end Go.Proofs.YteebapopeaafhaaGreatDoor
