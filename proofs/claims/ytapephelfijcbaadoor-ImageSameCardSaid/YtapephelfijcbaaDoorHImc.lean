/-
  STATEMENT: ImageCuts: an image that is cut, or has more behind it, is none: the walk. Conditions: utf8's tables and the bins as they are laid; the raw statements fit in memory.
-/
import Derived.Test.YtapephelfijcbaaDoorHImy
import Derived.Test.YtapephelfijcbaaDoorHApp2
namespace Go.Proofs.YtapephelfijcbaaDoor
open Go.RowKit Go.Tcn
set_option linter.unusedVariables false
set_option linter.unusedSimpArgs false
theorem app_z (k : Int) (n : Nat) (c0 c1 c2 : List Ins) (h0 : CodeOk c0) (h1 : CodeOk c1) (h2 : CodeOk c2) : ImgZ (appI k n c0 c1 c2) := by
  have hc : ∀ c : List Ins, CodeOk c → c.length ≤ 9223372036854775807 ∧ ∀ x ∈ c, I6 x.b := by
    intro c h
    obtain ⟨h1, h2, h3⟩ := h
    refine ⟨by omega, fun x hx => ?_⟩
    have hr := h1 x hx
    unfold rightI at hr
    have := of_decide_eq_true hr
    obtain ⟨_, _, _, _, hb⟩ := this
    unfold I6
    split at hb <;> omega
  have a0 := hc c0 h0
  have a1 := hc c1 h1
  have a2 := hc c2 h2
  unfold ImgZ appI
  refine ⟨by simp, by simp, ?_, by simp, ?_, by simp⟩
  · intro x hx
    simp at hx
    rcases hx with rfl | rfl <;> simp
  · intro m hm
    simp only [List.mem_cons, List.mem_nil_iff, or_false] at hm
    rcases hm with rfl | rfl | rfl
    · exact ⟨by simp, by simp, a0⟩
    · exact ⟨by simp, by simp, a1⟩
    · exact ⟨by simp, by simp, a2⟩
/-- Reading, of which the answer alone is told. -/
theorem im_ReadX (w : World) (x : Value) (b : List Int) (L' : List Nat) (hx : Src w L' x b.length (bys b)) (hbt : Byt b) (hbl : b.length ≤ 140737488355328) (hV : ∀ nm w', nm.length ≤ 16 → Tch [] w w' → Calls Tryd.prog 40 #[.string ⟨nm.toArray⟩] w' fun e w'' => e = .returned (.bool (Lib.validD nm)) ∧ Tch [] w' w'') :
    Calls Tryd.prog 8 #[x] w fun e w' => ∃ (nm : Array UInt8) (p1 : Option Addr) (n1 c1 : Nat) (p2 : Option Addr) (n2 c2 : Nat) (p3 : Option Addr) (n3 c3 : Nat) (p4 : Option Addr) (n4 c4 : Nat), e = .returned (.tuple #[.agg #[.string ⟨nm⟩, .slice p1 n1 c1, .slice p2 n2 c2, .slice p3 n3 c3, .slice p4 n4 c4], .int .i64 (readImg b).2]) ∧ Tch [] w w' := by
  refine (im_Read w x b L' hx hbt hbl hV).mono ?_
  rintro e w' ⟨vf, vi, vm, ve, rfl, r1, r2, r3, r4, _, t⟩
  obtain ⟨p1, c1, rfl⟩ := Src.form r1
  obtain ⟨p2, c2, rfl⟩ := RImps.form r2
  obtain ⟨p3, c3, rfl⟩ := RMths.form r3
  obtain ⟨p4, c4, rfl⟩ := Src.form r4
  exact ⟨_, _, _, _, _, _, _, _, _, _, _, _, _, rfl, t⟩
set_option maxRecDepth 100000 in
set_option maxHeartbeats 16000000 in
theorem law4_ImageCuts (w : World) (hG : Bins w 2) (k : Int) (hk : I6 k) (xv : Value) (l : List Rw) (hl : Raws w xv l) (hll : l.length ≤ 5000000000000) (hcap : ∀ ao n c, xv = .slice ao n c → n ≤ c) (at0 : Int) (hat : I6 at0) (mo : Int) (hmo : 0 ≤ mo ∧ mo ≤ 255) (hV : ∀ nm w', nm.length ≤ 16 → Tch [] w w' → Calls Tryd.prog 40 #[.string ⟨nm.toArray⟩] w' fun e w'' => e = .returned (.bool (Lib.validD nm)) ∧ Tch [] w' w'') :
    Calls Tryd.prog 5 #[.int .i64 k, xv, .int .i64 at0, .int .u8 mo] w fun e w' => e = .returned (.bool true) ∧ Tch [] w w' := by
  have hAp := hand_Applet w hG k hk xv l hl hll hcap [] (by simp)
  have hKn : ∀ W, Tch [] w W → Calls Tryd.prog 11 #[] W fun e w' => e = .returned (.bool true) ∧ Tch [] W w' := fun W t => law4_known W (fun nm w' h16 t' => hV nm w' h16 (t.then t'))
  have hRd : ∀ (W : World) (x : Value) (b : List Int), Tch [] w W → Src W [] x b.length (bys b) → Byt b → b.length ≤ 140737488355328 → Calls Tryd.prog 8 #[x] W fun e w' => ∃ (nm : Array UInt8) (p1 : Option Addr) (n1 c1 : Nat) (p2 : Option Addr) (n2 c2 : Nat) (p3 : Option Addr) (n3 c3 : Nat) (p4 : Option Addr) (n4 c4 : Nat), e = .returned (.tuple #[.agg #[.string ⟨nm⟩, .slice p1 n1 c1, .slice p2 n2 c2, .slice p3 n3 c3, .slice p4 n4 c4], .int .i64 (readImg b).2]) ∧ Tch [] W w' := fun W x b t hs hb hl => im_ReadX W x b [] hs hb hl (fun nm w' h16 t' => hV nm w' h16 (t.then t'))
  obtain ⟨i0, hi, hz0, hz1, hz2⟩ := info_parts info_u8
  obtain ⟨aox, nx, capx, hxv⟩ : ∃ ao n c, xv = .slice ao n c := by
    obtain ⟨ao, c, h, _⟩ := hl.ex
    exact ⟨ao, _, c, h⟩
  subst hxv
  go_enter Tryd.func5, Tryd.ntmps5
  go_wp2_with fail
  refine hAp.mono ?_
  rintro e w1 ⟨cs, c0, c1, c2, rfl, ⟨vf, vi, vm, ve, hcs, r1, r2, r3, r4⟩, k0, k1, k2, t1⟩
  have hz := app_z k l.length c0 c1 c2 k0 k1 k2
  generalize appI k l.length c0 c1 c2 = i at *
  obtain rfl : cs = #[.string ⟨i.name.toArray⟩, vf, vi, vm, ve] := by
    apply Array.toList_inj.1
    rw [hcs]
    rfl
  have hLk : imgB i = true → _ := fun h => im_Lay_ok w1 i vf vi vm ve r1 r2 r3 r4 hz (fun nm w' h16 t' => hV nm w' h16 (t1.then t')) h
  have hLn : imgB i = false → _ := fun h => im_Lay_no w1 i vf vi vm ve r1 r2 r3 r4 hz (fun nm w' h16 t' => hV nm w' h16 (t1.then t')) h
  clear hV hAp hG hl hll hcap r1 r2 r3 r4 k0 k1 k2 hcs hz
  go_wp2_with fail
  cases hB : imgB i
  · refine (hLn hB).mono ?_
    rintro e w2 ⟨rfl, t2⟩
    have T2 := t1.then t2
    clear hLk hLn
    go_wp2_with fail
    refine (hKn w2 T2).mono ?_
    rintro e w3 ⟨rfl, t3⟩
    go_wp2_with fail
    refine (hKn w3 (T2.then t3)).mono ?_
    rintro e w4 ⟨rfl, t4⟩
    go_wp2_with fail
    go_ret
    exact ⟨rfl, (T2.then t3).then t4⟩
  · refine (hLk hB).mono ?_
    rintro e w2 ⟨ao, cap, rfl, ho, ⟨g, rfl, hg⟩, t2⟩
    have T2 := t1.then t2
    have hbt := encImg_byt i
    have hle := encImg_le hB
    have hcut := readImg_cut i hB
    have hmore := readImg_more i hB mo
    have hpos : 0 < (encImg i).length := by simp [encImg, head5]
    clear hLk hLn hB
    generalize encImg i = b at *
    have hS := src_of_owns ho [] (by simp)
    have hcap : b.length ≤ cap := by
      rcases hS.ex with ⟨h, _⟩ | ⟨ad, c, h, hm, _⟩
      · cases h
      · simp only [Value.slice.injEq] at h
        omega
    obtain ⟨n, hn⟩ : ∃ n, b.length = n := ⟨_, rfl⟩
    rw [hn] at hle hpos hcap hS ho hcut ⊢
    have hn0 : ¬ (n : Int) = 0 := by omega
    have HN := Lib.hid hn
    clear hn
    clear ho
    go_wp2_with fail
    refine (hKn w2 T2).mono ?_
    rintro e w3 ⟨rfl, t3⟩
    have T3 := T2.then t3
    have hS3 := hS.tch t3 (by simp)
    have hPk := hand_Pick at0 n hat (by omega) (by omega) w3
    obtain ⟨p, hp, hpn⟩ : ∃ p : Nat, at0 % (n : Int) = p ∧ p < n := by
      have e1 := Int.emod_nonneg at0 hn0
      have e2 := Int.emod_lt_of_pos at0 (show (0 : Int) < n by omega)
      exact ⟨(at0 % (n : Int)).toNat, by omega, by omega⟩
    rw [hp] at hPk
    clear hp
    go_wp2_with fail
    refine hPk.mono ?_
    rintro e w4 ⟨rfl, rfl⟩
    have hcutr : ∀ W, (Instr.slice 30 (.slice (some ⟨g, 0, none⟩) n cap) none (some (.int .i64 p)) none).run Tryd.prog W = .ok (.slice (some ⟨g, 0, none⟩) p cap) W := fun W => run_cut_h 30 5 1 Tryd.underlying30 (by kernel_rfl) (by kernel_rfl) (some ⟨g, 0, none⟩) n cap p (by omega) W
    have hSp : Src w3 [] (.slice (some ⟨g, 0, none⟩) p cap) (b.take p).length (bys (b.take p)) := by
      have h := hS3.cut_h (n := p) (sz := 1) (by omega)
      have e1 : (b.take p).length = p := by rw [List.length_take, HN.out]; omega
      rw [e1]
      have e2 : bys (b.take p) = (bys b).take (p * 1) := by simp [bys]
      rw [e2]
      exact h
    have hR1 := hRd w3 _ _ T3 hSp (hbt.take p) (by rw [List.length_take]; omega)
    have he1 := hcut p hpn
    generalize (readImg (b.take p)).2 = er1 at *
    clear hSp hcut
    go_wp2_with fail
    refine hR1.mono ?_
    rintro e w5 ⟨nm, p1, n1, c1, p2, n2, c2, p3, n3, c3, p4, n4, c4, rfl, t5⟩
    clear hR1
    have T5 := T3.then t5
    have hz5 := T5.size
    have hF : ∀ W, Src W [] (.slice (some ⟨g, 0, none⟩) n cap) n (bys b) → Calls Tryd.prog 18 #[.slice (some ⟨g, 0, none⟩) n cap, .int .i64 n] W fun e w' => ∃ ao c, e = .returned (.slice ao n c) ∧ w'.ownsRow 0 5 1 (.slice ao n c) n (bys b) ∧ (∀ q, (Value.slice ao n c).ownBlock = some q → W.heap.size ≤ q) ∧ Tch [] W w' := fun W h => by
      have hf := hand_Few W [] (.slice (some ⟨g, 0, none⟩) n cap) b (by rw [HN.out]; exact h) n (by omega) (by rw [HN.out]; omega) (by omega)
      have e1 : b.take n = b := List.take_of_length_le (by rw [HN.out]; exact Nat.le_refl n)
      rw [e1, HN.out] at hf
      exact hf
    go_wp2_with fail
    refine (hF _ ((hS3.tch t5 (by simp)).tch ((Tch.refl [] w5).alloc _) (by simp))).mono ?_
    rintro e w6 ⟨ao6, c6, rfl, ho6, hb6, t6⟩
    have T6 : Tch [] w w6 := (T5.alloc _).then t6
    have hb6' : ∀ q, (Value.slice ao6 n c6).ownBlock = some q → w.heap.size ≤ q := fun q hq => by
      have := hb6 q hq
      rw [World.size_alloc] at this
      omega
    clear t6 hb6 hF
    have hoV : (w6.alloc (.cells #[.int .u8 mo] 5)).ownsRow 0 5 1 (.slice ao6 n c6) n (bys b) := ownsRow_tch ho6 ((Tch.refl [] w6).alloc _) (by simp)
    have hsrc : Src (w6.alloc (.cells #[.int .u8 mo] 5)) [] (.slice (some ⟨w6.heap.size, 0, none⟩) 1 1) 1 [.int .u8 mo] := src_new _ _ [] _ _ 1 1 (Tch.refl _ _) (by simp)
    have h1c : ∀ u ∈ [Value.int .u8 mo], u.oneCell' = true := bys_one [mo]
    have TV : Tch [] w (w6.alloc (.cells #[.int .u8 mo] 5)) := T6.alloc _
    clear ho6
    go_wp2_with (at_builtin; refine wpList_append_any _ rfl (.tmp 48) (.tmp 50) 30 rfl 5 i0 (.int .u8 0) 1 1 Tryd.underlying30 hi hz0 hz1 hz2 rfl (by decide) (.slice ao6 n c6) n (bys b) rfl hoV [] _ 1 [.int .u8 mo] rfl hsrc rfl h1c (by omega) ?_; intro ao7 cap7 w7 ho7 hgrow hat7)
    have T7 : Tch [] w w7 := TV.grown hgrow (fun k hk => .inr (hb6' k hk))
    have hs7 : Src w7 [] (.slice ao7 (n + 1) cap7) (b ++ [mo]).length (bys (b ++ [mo])) := by
      have h := src_of_owns ho7 [] (by simp)
      have e : (b ++ [mo]).length = n + 1 := by rw [List.length_append, HN.out]; rfl
      rw [e, bys_append]
      exact h
    have hR2 := hRd w7 _ _ T7 hs7 (hbt.append (by intro x hx; simp at hx; omega)) (by rw [List.length_append, HN.out, List.length_singleton]; omega)
    generalize (readImg (b ++ [mo])).2 = er2 at *
    clear ho7 hgrow hat7 hoV hsrc TV T6 h1c hs7
    refine hR2.mono ?_
    rintro e w8 ⟨nm', p1', n1', c1', p2', n2', c2', p3', n3', c3', p4', n4', c4', rfl, t8⟩
    have T8 := T7.then t8
    clear hR2 t8 T7
    have b1 : (er1 != 0) = true := by simpa using he1
    have b2 : (er2 != 0) = true := by simpa using hmore
    go_wp2_with fail
    go_ret
    exact ⟨by first | rfl | simp [b1, b2], T8.alloc _⟩
end Go.Proofs.YtapephelfijcbaaDoor
