/-
  CONTRACTS: verify: leaks. Conditions: sizes of 64 bits.
-/
import Derived.Test.YtpabkjjonbhdeaaDoorHVe3
namespace Go.Proofs.YtpabkjjonbhdeaaDoor
open Go.RowKit Go.Tcn
set_option linter.unusedVariables false
set_option linter.unusedSimpArgs false
theorem cells_of_heapW {w : World} {g : Nat} {cs : Array Value} {T : TypeId} (h : w.heap[g]? = some (.cells cs T (0, 0))) : ∀ (j : Nat) u, cs.toList[j]? = some u → w.cell? ((⟨g, 0, none⟩ : Addr).add j) = some u := fun j u hj => World.news_of_block h j u hj
theorem anyShow_drop (ts l : List Int) (k : Nat) (hk : k < ts.length) (hl : k < l.length) : anyShow (ts.drop k) (l.drop k) = (showsB l[k] ts[k] || anyShow (ts.drop (k + 1)) (l.drop (k + 1))) := by
  rw [List.drop_eq_getElem_cons hk, List.drop_eq_getElem_cons hl]; rfl
set_option maxRecDepth 100000 in
set_option maxHeartbeats 16000000 in
theorem ve_leaks (w : World) (p : Nat) (M : List Nat) (i : Img) (m : Mth) (V : WV) (h : WkR w 54 p M i m V) (x : Ins) (hx : 1 ≤ x.op ∧ x.op ≤ 39 ∧ 0 ≤ x.a) (hn : namesF i m x = true) (ao : Option Addr) (c : Nat) (l : List Int) (hl : RInts w [] (.slice ao l.length c) l) (hlen : (takesF i m x).length ≤ l.length) (hmx : l.length ≤ 9223372036854775807) :
    Calls Tryd.prog 51 #[.pointer (some ⟨p, 0, none⟩), .agg #[.int .i64 x.op, .int .i64 x.a, .int .i64 x.b], .slice ao l.length c] w fun e w' => e = .returned (.int .i64 (leaksF i m x l)) ∧ Tch [] w w' := by
  have hk3 : x.op = 22 ∨ x.op = 30 ∨ x.op = 31 ∨ x.op = 36 → 3 ≤ l.length := fun e => by
    have := hlen
    unfold takesF at this
    rcases e with e | e | e | e <;> simp [e, twoB] at this <;> omega
  have hkd : leaksF i m x l = if (if x.op = 22 then isArrB (l.getD 1 0) && l.getD 0 0 == 2 else if x.op = 30 then anyShow (takesF i m x) l || l.getD 0 0 == 3 && l.getD 2 0 == 2
    else if x.op = 31 then anyShow (takesF i m x) l || l.getD 0 0 == 3 && l.getD 2 0 == 4 else if x.op = 36 then anyShow (takesF i m x) l || x.a == 1 && l.getD 0 0 == 4 else anyShow (takesF i m x) l) then 12 else 0 := rfl
  have hT := fun (W : World) (t : Tch [] w W) => ve_takes W p M i m V (h.tch t (by simp) (by simp)) x hx hn (by simp)
  obtain ⟨op, a, b⟩ := x
  obtain ⟨V1, hV1⟩ : ∃ W, W = w.alloc (.cells #[.int .i64 op, .int .i64 a, .int .i64 b] 24) := ⟨_, rfl⟩
  have tV : Tch [] w V1 := by rw [hV1]; exact (Tch.refl [] w).alloc _
  obtain ⟨g, hg⟩ : ∃ g, g = w.heap.size := ⟨_, rfl⟩
  have hB : V1.heap[g]? = some (.cells #[.int .i64 op, .int .i64 a, .int .i64 b] 24 (0, 0)) := by rw [hV1, hg]; exact heap_alloc_new w _
  have hcg := cells_of_heapW hB
  have HK := Lib.hid hkd
  clear hkd h
  generalize takesF i m ⟨op, a, b⟩ = ts at *
  generalize leaksF i m ⟨op, a, b⟩ l = r at *
  go_enter Tryd.func51, Tryd.ntmps51
  go_upto_region 1 with fail
  rw [← hV1, ← hg]
  clear hV1 hg
  go_wp2_with (first | (refine wpList_load_agg rfl 24 (.tmp 4) rfl ⟨g, 0, none⟩ rfl #[.int .i64 op, .int .i64 a, .int .i64 b] _ hcg Tryd.underlying24 rfl (by kernel_rfl) ?_) | fail)
  refine (hT V1 tV).mono ?_
  rintro e w2 ⟨ao2, cap2, rfl, s2, t2⟩
  have T2 := tV.then t2
  have hD := fun k asked w => ve_shows k asked w
  have hB2 := (t2.block g (heap_lt hB) (by simp)).trans hB
  have hl2 := hl.tch T2 (by simp)
  have hat := fun j (hj : j < l.length) => at_ints hl2 j hj
  have htx := fun j (hj : j < ts.length) => at_ints s2 j hj
  clear hT hcg s2
  go_wp2_with fail
  go_loopw [14, 7] (fun iv bv wz => ∃ (k : Nat) (lk : Bool), k ≤ ts.length ∧ iv = .int .i64 k ∧ bv = .bool lk ∧ anyShow ts l = (lk || anyShow (ts.drop k) (l.drop k)) ∧ w2 = wz) (fun iv _ _ => ts.length - (intOf iv).toNat)
  case atStart => exact ⟨0, false, by omega, rfl, rfl, by simp, rfl⟩
  case round =>
    obtain ⟨k, lk, hk1, rfl, rfl, hd, rfl⟩ := hrel
    by_cases hk : k < ts.length
    · have hkl : k < l.length := Nat.lt_of_lt_of_le hk hlen
      have hdd := anyShow_drop ts l k hk hkl
      obtain ⟨y, ey, ad, hax, q, _⟩ := hat k hkl
      obtain ⟨z, ez, bd, hbx, qz, _⟩ := htx k hk
      have gy : l[k] = y := by rw [← ey]; simp [List.getD, List.getElem?_eq_getElem hkl]
      have gz : ts[k] = z := by rw [← ez]; simp [List.getD, List.getElem?_eq_getElem hk]
      rw [gy, gz] at hdd
      rw [hdd] at hd
      have u1 := q w2 (Tch.refl _ _)
      have u2 := qz w2 (Tch.refl _ _)
      subst hax hbx
      have HD := Lib.hid hd
      clear hd hdd gy gz ey ez q qz hat htx hl hl2 hk3
      cases lk
      · cases hy : showsB y z
        all_goals
          have hDy := hD y z w2
          rw [hy] at hDy HD
          have HD2 := Lib.hid (show anyShow ts l = (showsB y z || anyShow (ts.drop (k + 1)) (l.drop (k + 1))) by rw [HD.out, hy]; simp)
          rw [hy] at HD2
          clear hD HD
          go_wp2_with fail
          refine hDy.mono ?_
          rintro e w' ⟨rfl, rfl⟩
          go_wp2_with fail
          go_roundw
          case rel => exact ⟨k + 1, _, by omega, by go_num, rfl, HD2.out, by first | rfl | trivial⟩
          case measure => simp [intOf]; omega
      · have HD2 := Lib.hid (show anyShow ts l = (true || anyShow (ts.drop (k + 1)) (l.drop (k + 1))) by rw [HD.out]; simp)
        clear hD HD
        go_wp2_with fail
        go_roundw
        case rel => exact ⟨k + 1, true, by omega, by go_num, rfl, HD2.out, by first | rfl | trivial⟩
        case measure => simp [intOf]; omega
    · have hall : anyShow ts l = lk := by
        rw [hd, List.drop_eq_nil_of_le (by omega)]; cases lk <;> rfl
      rw [hall] at HK
      have hc0 : w2.cell? ⟨g, 0, none⟩ = some (.int .i64 op) := by simp [World.cell?, hB2]
      have hc1 : w2.cell? ⟨g, 1, none⟩ = some (.int .i64 a) := by simp [World.cell?, hB2]
      have hA := fun k w => lab_IsArr k w
      clear hd hall hB hB2 htx hD hl hl2 hlen
      by_cases h22 : op = 22
      · subst h22
        have h3 := hk3 (by omega)
        have l0 : 0 < l.length := by omega
        have l1 : 1 < l.length := by omega
        obtain ⟨y0, e0, ad, hax, q0, _⟩ := hat 0 l0
        obtain ⟨y1, e1, _, ha1, _, q1⟩ := hat 1 l1
        subst hax
        simp only [Option.some.injEq] at ha1
        subst ha1
        have r0 := q0 w2 (Tch.refl _ _)
        have r0' : w2.cell? ad = some (.int .i64 y0) := by rwa [Addr_add_zero] at r0
        have r1 := q1 (by decide) w2 (Tch.refl _ _)
        rw [e0, e1] at HK
        have hA1 := hA y1 w2
        have HR := Lib.hid (show r = if (isArrB y1 && y0 == 2) = true then 12 else 0 by rw [HK.out]; simp)
        clear e0 e1 q0 q1 hat HK hA hk3 h3
        generalize l.length = nl at *
        generalize isArrB y1 = b1 at *
        cases h02 : (y0 == 2)
        all_goals cases b1
        all_goals
          go_wp2_with fail
          refine hA1.mono ?_
          rintro e w' ⟨rfl, rfl⟩
          go_wp2_with fail
          go_ret
          exact ⟨by rw [HR.out]; simp [h02], T2⟩
      · have b22 : (op == 22) = false := beq_eq_false_iff_ne.2 h22
        by_cases h30 : op = 30
        · subst h30
          have h3 := hk3 (by omega)
          have l0 : 0 < l.length := by omega
          have l2 : 2 < l.length := by omega
          obtain ⟨y0, e0, ad, hax, q0, _⟩ := hat 0 l0
          obtain ⟨y2, e2, _, ha2, _, q2⟩ := hat 2 l2
          subst hax
          simp only [Option.some.injEq] at ha2
          subst ha2
          have r0 := q0 w2 (Tch.refl _ _)
          have r0' : w2.cell? ad = some (.int .i64 y0) := by rwa [Addr_add_zero] at r0
          have r2 := q2 (by decide) w2 (Tch.refl _ _)
          rw [e0, e2] at HK
          have HR := Lib.hid (show r = if (lk || y0 == 3 && y2 == 2) = true then 12 else 0 by rw [HK.out]; simp)
          clear e0 e2 q0 q2 hat HK hA hk3 h3
          generalize l.length = nl at *
          cases lk
          · cases h03 : (y0 == 3)
            all_goals cases h22 : (y2 == 2)
            all_goals
              go_wp2_with fail
              go_ret
              exact ⟨by rw [HR.out]; simp [h03, h22], T2⟩
          · go_wp2_with fail
            go_ret
            exact ⟨by rw [HR.out]; simp, T2⟩
        · have b30 : (op == 30) = false := beq_eq_false_iff_ne.2 h30
          by_cases h31 : op = 31
          · subst h31
            have h3 := hk3 (by omega)
            have l0 : 0 < l.length := by omega
            have l2 : 2 < l.length := by omega
            obtain ⟨y0, e0, ad, hax, q0, _⟩ := hat 0 l0
            obtain ⟨y2, e2, _, ha2, _, q2⟩ := hat 2 l2
            subst hax
            simp only [Option.some.injEq] at ha2
            subst ha2
            have r0 := q0 w2 (Tch.refl _ _)
            have r0' : w2.cell? ad = some (.int .i64 y0) := by rwa [Addr_add_zero] at r0
            have r2 := q2 (by decide) w2 (Tch.refl _ _)
            rw [e0, e2] at HK
            have HR := Lib.hid (show r = if (lk || y0 == 3 && y2 == 4) = true then 12 else 0 by rw [HK.out]; simp)
            clear e0 e2 q0 q2 hat HK hA hk3 h3
            generalize l.length = nl at *
            cases lk
            · cases h03 : (y0 == 3)
              all_goals cases h22 : (y2 == 4)
              all_goals
                go_wp2_with fail
                go_ret
                exact ⟨by rw [HR.out]; simp [h03, h22], T2⟩
            · go_wp2_with fail
              go_ret
              exact ⟨by rw [HR.out]; simp, T2⟩
          · have b31 : (op == 31) = false := beq_eq_false_iff_ne.2 h31
            by_cases h36 : op = 36
            · subst h36
              have h3 := hk3 (by omega)
              have l0 : 0 < l.length := by omega
              obtain ⟨y0, e0, ad, hax, q0, _⟩ := hat 0 l0
              subst hax
              have r0 := q0 w2 (Tch.refl _ _)
              have r0' : w2.cell? ad = some (.int .i64 y0) := by rwa [Addr_add_zero] at r0
              rw [e0] at HK
              have HR := Lib.hid (show r = if (lk || a == 1 && y0 == 4) = true then 12 else 0 by rw [HK.out]; simp)
              clear e0 q0 hat HK hA hk3 h3
              generalize l.length = nl at *
              cases lk
              · cases h03 : (a == 1)
                all_goals cases h22 : (y0 == 4)
                all_goals
                  go_wp2_with fail
                  go_ret
                  exact ⟨by rw [HR.out]; simp [h03, h22], T2⟩
              · go_wp2_with fail
                go_ret
                exact ⟨by rw [HR.out]; simp, T2⟩
            · have b36 : (op == 36) = false := beq_eq_false_iff_ne.2 h36
              have HR := Lib.hid (show r = if lk = true then 12 else 0 by rw [HK.out]; simp [h22, h30, h31, h36])
              clear HK hat hk3
              cases lk
              all_goals
                go_wp2_with fail
                go_ret
                exact ⟨by rw [HR.out]; simp, T2⟩
end Go.Proofs.YtpabkjjonbhdeaaDoor
