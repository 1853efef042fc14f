/-
  CONTRACTS: verify: kinds. Conditions: sizes of 64 bits.
-/
import Derived.Test.YtpabkjjonbhdeaaDoorHVe3
namespace Go.Proofs.YtpabkjjonbhdeaaDoor
open Go.RowKit Go.Tcn
set_option linter.unusedVariables false
set_option linter.unusedSimpArgs false
theorem cells_of_heapV {w : World} {g : Nat} {cs : Array Value} {T : TypeId} (h : w.heap[g]? = some (.cells cs T (0, 0))) : ∀ (j : Nat) u, cs.toList[j]? = some u → w.cell? ((⟨g, 0, none⟩ : Addr).add j) = some u := fun j u hj => World.news_of_block h j u hj
theorem allDo_drop (ts l : List Int) (k : Nat) (hk : k < ts.length) (hl : k < l.length) : allDo (ts.drop k) (l.drop k) = (doesB l[k] ts[k] && allDo (ts.drop (k + 1)) (l.drop (k + 1))) := by
  rw [List.drop_eq_getElem_cons hk, List.drop_eq_getElem_cons hl]; rfl
set_option maxRecDepth 100000 in
set_option maxHeartbeats 16000000 in
theorem ve_kinds (w : World) (p : Nat) (M : List Nat) (i : Img) (m : Mth) (V : WV) (h : WkR w 54 p M i m V) (x : Ins) (hx : 1 ≤ x.op ∧ x.op ≤ 39 ∧ 0 ≤ x.a) (hn : namesF i m x = true) (ao : Option Addr) (c : Nat) (l : List Int) (hl : RInts w [] (.slice ao l.length c) l) (hlen : (takesF i m x).length ≤ l.length) (hmx : l.length ≤ 9223372036854775807) :
    Calls Tryd.prog 50 #[.pointer (some ⟨p, 0, none⟩), .agg #[.int .i64 x.op, .int .i64 x.a, .int .i64 x.b], .slice ao l.length c] w fun e w' => e = .returned (.int .i64 (kindsF i m x l)) ∧ Tch [] w w' := by
  have hk22 : x.op = 22 → 3 ≤ l.length := fun e => by
    have := hlen
    unfold takesF at this
    simp [e, twoB] at this
    exact this
  have hkd : kindsF i m x l = if allDo (takesF i m x) l = false then 11 else if x.op = 22 ∧ ¬ (isIntB (l.getD 1 0) && isIntB (l.getD 2 0)) ∧ ¬ (isArrB (l.getD 1 0) && l.getD 1 0 == l.getD 2 0) then 11 else 0 := rfl
  have hT := fun (W : World) (t : Tch [] w W) => ve_takes W p M i m V (h.tch t (by simp) (by simp)) x hx hn (by simp)
  obtain ⟨op, a, b⟩ := x
  obtain ⟨V1, hV1⟩ : ∃ W, W = w.alloc (.cells #[.int .i64 op, .int .i64 a, .int .i64 b] 24) := ⟨_, rfl⟩
  have tV : Tch [] w V1 := by rw [hV1]; exact (Tch.refl [] w).alloc _
  obtain ⟨g, hg⟩ : ∃ g, g = w.heap.size := ⟨_, rfl⟩
  have hB : V1.heap[g]? = some (.cells #[.int .i64 op, .int .i64 a, .int .i64 b] 24 (0, 0)) := by rw [hV1, hg]; exact heap_alloc_new w _
  have hcg := cells_of_heapV hB
  have HK := Lib.hid hkd
  clear hkd h
  generalize takesF i m ⟨op, a, b⟩ = ts at *
  generalize kindsF i m ⟨op, a, b⟩ l = r at *
  go_enter Tryd.func50, Tryd.ntmps50
  go_upto_region 1 with fail
  rw [← hV1, ← hg]
  clear hV1 hg
  go_wp2_with (first | (refine wpList_load_agg rfl 24 (.tmp 4) rfl ⟨g, 0, none⟩ rfl #[.int .i64 op, .int .i64 a, .int .i64 b] _ hcg Tryd.underlying24 rfl (by kernel_rfl) ?_) | fail)
  refine (hT V1 tV).mono ?_
  rintro e w2 ⟨ao2, cap2, rfl, s2, t2⟩
  have T2 := tV.then t2
  have hD := fun k asked w => ve_does k asked w
  have hB2 := (t2.block g (heap_lt hB) (by simp)).trans hB
  have hl2 := hl.tch T2 (by simp)
  have hat := fun j (hj : j < l.length) => at_ints hl2 j hj
  have htx := fun j (hj : j < ts.length) => at_ints s2 j hj
  clear hT hcg s2
  go_wp2_with fail
  go_loopw [13] (fun iv wz => ∃ k : Nat, k ≤ ts.length ∧ iv = .int .i64 k ∧ allDo ts l = allDo (ts.drop k) (l.drop k) ∧ w2 = wz) (fun iv _ => ts.length - (intOf iv).toNat)
  case atStart => exact ⟨0, by omega, rfl, rfl, rfl⟩
  case round =>
    obtain ⟨k, hk1, rfl, hd, rfl⟩ := hrel
    by_cases hk : k < ts.length
    · have hkl : k < l.length := Nat.lt_of_lt_of_le hk hlen
      have hdd := allDo_drop ts l k hk hkl
      obtain ⟨y, ey, ad, hax, q, _⟩ := hat k hkl
      obtain ⟨z, ez, bd, hbx, qz, _⟩ := htx k hk
      have gy : l[k] = y := by rw [← ey]; simp [List.getD, List.getElem?_eq_getElem hkl]
      have gz : ts[k] = z := by rw [← ez]; simp [List.getD, List.getElem?_eq_getElem hk]
      rw [gy, gz] at hdd
      rw [hdd] at hd
      have u1 := q w2 (Tch.refl _ _)
      have u2 := qz w2 (Tch.refl _ _)
      subst hax hbx
      have HD := Lib.hid hd
      clear hd hdd gy gz ey ez q qz hat htx hl hl2 hk22
      cases hy : doesB y z
      · have hDy := hD y z w2
        rw [hy] at hDy
        have HR := Lib.hid (show r = 11 by rw [HK.out, HD.out, hy]; simp)
        clear hD
        go_wp2_with fail
        refine hDy.mono ?_
        rintro e w' ⟨rfl, rfl⟩
        go_wp2_with fail
        go_ret
        exact ⟨by rw [HR.out]; try rfl, T2⟩
      · have hDy := hD y z w2
        rw [hy] at hDy HD
        have HD2 := Lib.hid (show allDo ts l = allDo (ts.drop (k + 1)) (l.drop (k + 1)) by rw [HD.out]; simp)
        clear hD HD
        go_wp2_with fail
        refine hDy.mono ?_
        rintro e w' ⟨rfl, rfl⟩
        go_wp2_with fail
        go_roundw
        case rel => exact ⟨k + 1, by omega, by go_num, HD2.out, by first | rfl | trivial⟩
        case measure => simp [intOf]; omega
    · have hall : allDo ts l = true := by
        rw [hd, List.drop_eq_nil_of_le (by omega)]; rfl
      have HK2 := Lib.hid (show r = if op = 22 ∧ ¬ (isIntB (l.getD 1 0) && isIntB (l.getD 2 0)) ∧ ¬ (isArrB (l.getD 1 0) && l.getD 1 0 == l.getD 2 0) then 11 else 0 by rw [HK.out, hall]; simp)
      have hc0 : w2.cell? ⟨g, 0, none⟩ = some (.int .i64 op) := by simp [World.cell?, hB2]
      have hz0 : ∀ x : TW [] w2, x.w.cell? ⟨g, 0, none⟩ = some (.int .i64 op) := fun x => (x.t.cell (cell_lt hc0) (by simp)).trans hc0
      clear hd hall HK hB hB2 hc0 htx hD
      by_cases h22 : op = 22
      · subst h22
        obtain ⟨y1, e1, ad, hax, _, q1⟩ := hat 1 (by have := hk22 rfl; omega)
        obtain ⟨y2, e2, _, ha2, _, q2⟩ := hat 2 (by have := hk22 rfl; omega)
        subst hax
        simp only [Option.some.injEq] at ha2
        subst ha2
        have r1 : ∀ x : TW [] w2, x.w.cell? ⟨ad.block, ad.off + 1, none⟩ = some (.int .i64 y1) := fun x => q1 (by decide) _ x.t
        have r2 : ∀ x : TW [] w2, x.w.cell? ⟨ad.block, ad.off + 2, none⟩ = some (.int .i64 y2) := fun x => q2 (by decide) _ x.t
        have l1 : 1 < l.length := by have := hk22 rfl; omega
        have l2 : 2 < l.length := by have := hk22 rfl; omega
        rw [e1, e2] at HK2
        clear e1 e2 q1 q2 hat hl hl2 hlen hk22
        generalize l.length = nl at *
        obtain ⟨b1, hb1⟩ : ∃ b1, isIntB y1 = b1 := ⟨_, rfl⟩
        obtain ⟨b2, hb2⟩ : ∃ b2, isIntB y2 = b2 := ⟨_, rfl⟩
        obtain ⟨b3, hb3⟩ : ∃ b3, isArrB y1 = b3 := ⟨_, rfl⟩
        obtain ⟨b4, hb4⟩ : ∃ b4, (y1 == y2) = b4 := ⟨_, rfl⟩
        have hI1 : ∀ x : TW [] w2, Calls Tryd.prog 64 #[.int .i64 y1] x.w fun e w' => e = .returned (.bool b1) ∧ x.w = w' := fun x => by rw [← hb1]; exact lab_IsInt y1 x.w
        have hI2 : ∀ x : TW [] w2, Calls Tryd.prog 64 #[.int .i64 y2] x.w fun e w' => e = .returned (.bool b2) ∧ x.w = w' := fun x => by rw [← hb2]; exact lab_IsInt y2 x.w
        have hI3 : ∀ x : TW [] w2, Calls Tryd.prog 65 #[.int .i64 y1] x.w fun e w' => e = .returned (.bool b3) ∧ x.w = w' := fun x => by rw [← hb3]; exact lab_IsArr y1 x.w
        rw [hb1, hb2, hb3, hb4] at HK2
        clear hb1 hb2 hb3
        go_wp2_with fail
        refine wp_region_tch (L := []) (w0 := w2) (by kernel_rfl) (by kernel_rfl) (Tch.refl [] w2) ?_
        cases b1
        · cases b3
          · repeat (go_big_quiet_step ((first | rfl | (go_at_call 64; first | exact tch_of_same (hI1 _) | exact tch_of_same (hI2 _)) | (go_at_call 65; exact tch_of_same (hI3 _)))))
            refine wpQuiet_nil ?_
            intro _ hw'
            obtain ⟨x, rfl⟩ := hw'
            go_wp2_with fail
            go_ret
            exact ⟨by rw [HK2.out]; simp, T2.then x.t⟩
          · cases b4
            · repeat (go_big_quiet_step ((first | rfl | (go_at_call 64; first | exact tch_of_same (hI1 _) | exact tch_of_same (hI2 _)) | (go_at_call 65; exact tch_of_same (hI3 _)))))
              refine wpQuiet_nil ?_
              intro _ hw'
              obtain ⟨x, rfl⟩ := hw'
              go_wp2_with fail
              go_ret
              exact ⟨by rw [HK2.out]; simp, T2.then x.t⟩
            · repeat (go_big_quiet_step ((first | rfl | (go_at_call 64; first | exact tch_of_same (hI1 _) | exact tch_of_same (hI2 _)) | (go_at_call 65; exact tch_of_same (hI3 _)))))
              refine wpQuiet_nil ?_
              intro _ hw'
              obtain ⟨x, rfl⟩ := hw'
              go_wp2_with fail
              go_ret
              exact ⟨by rw [HK2.out]; simp, T2.then x.t⟩
        · cases b2
          · cases b3
            · repeat (go_big_quiet_step ((first | rfl | (go_at_call 64; first | exact tch_of_same (hI1 _) | exact tch_of_same (hI2 _)) | (go_at_call 65; exact tch_of_same (hI3 _)))))
              refine wpQuiet_nil ?_
              intro _ hw'
              obtain ⟨x, rfl⟩ := hw'
              go_wp2_with fail
              go_ret
              exact ⟨by rw [HK2.out]; simp, T2.then x.t⟩
            · cases b4
              · repeat (go_big_quiet_step ((first | rfl | (go_at_call 64; first | exact tch_of_same (hI1 _) | exact tch_of_same (hI2 _)) | (go_at_call 65; exact tch_of_same (hI3 _)))))
                refine wpQuiet_nil ?_
                intro _ hw'
                obtain ⟨x, rfl⟩ := hw'
                go_wp2_with fail
                go_ret
                exact ⟨by rw [HK2.out]; simp, T2.then x.t⟩
              · repeat (go_big_quiet_step ((first | rfl | (go_at_call 64; first | exact tch_of_same (hI1 _) | exact tch_of_same (hI2 _)) | (go_at_call 65; exact tch_of_same (hI3 _)))))
                refine wpQuiet_nil ?_
                intro _ hw'
                obtain ⟨x, rfl⟩ := hw'
                go_wp2_with fail
                go_ret
                exact ⟨by rw [HK2.out]; simp, T2.then x.t⟩
          · repeat (go_big_quiet_step ((first | rfl | (go_at_call 64; first | exact tch_of_same (hI1 _) | exact tch_of_same (hI2 _)) | (go_at_call 65; exact tch_of_same (hI3 _)))))
            refine wpQuiet_nil ?_
            intro _ hw'
            obtain ⟨x, rfl⟩ := hw'
            go_wp2_with fail
            go_ret
            exact ⟨by rw [HK2.out]; simp, T2.then x.t⟩
      · have b22 : (op == 22) = false := beq_eq_false_iff_ne.2 h22
        have HR := Lib.hid (show r = 0 by rw [HK2.out]; simp [h22])
        clear hat
        go_wp2_with fail
        refine wp_region_tch (L := []) (w0 := w2) (by kernel_rfl) (by kernel_rfl) (Tch.refl [] w2) ?_
        repeat (go_big_quiet_step (rfl))
        refine wpQuiet_nil ?_
        intro _ hw'
        obtain ⟨x, rfl⟩ := hw'
        go_wp2_with fail
        go_ret
        exact ⟨by rw [HR.out]; try rfl, T2.then x.t⟩
end Go.Proofs.YtpabkjjonbhdeaaDoor
