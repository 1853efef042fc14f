/-
  CONTRACTS: label.JoinAll. Conditions: short lists.
-/
import Derived.Test.YtpabkjjonbhdeaaDoorHVe3
import Derived.Test.YtpabkjjonbhdeaaDoorHVe5
namespace Go.Proofs.YtpabkjjonbhdeaaDoor
open Go.RowKit Go.Tcn
set_option linter.unusedVariables false
set_option linter.unusedSimpArgs false
theorem joinAll_ne : ∀ (l m : List Int), l.length ≠ m.length → joinAllF l m = none
  | [], [], h => absurd rfl h
  | [], b :: m, _ => rfl
  | a :: l, [], _ => rfl
  | a :: l, b :: m, h => by
    unfold joinAllF
    split
    · rw [joinAll_ne l m (by simpa using h)]; rfl
    · rfl
theorem joinAll_drop (l m : List Int) (k : Nat) (hl : k < l.length) (hm : k < m.length) : joinAllF (l.drop k) (m.drop k) = if joinB l[k] m[k] then (joinAllF (l.drop (k + 1)) (m.drop (k + 1))).map (joinV l[k] m[k] :: ·) else none := by
  rw [List.drop_eq_getElem_cons hl, List.drop_eq_getElem_cons hm]; rfl
set_option maxRecDepth 100000 in
set_option maxHeartbeats 16000000 in
theorem ve_JoinAll (w : World) (ao : Option Addr) (c : Nat) (l : List Int) (hl : RInts w [] (.slice ao l.length c) l) (bo : Option Addr) (d : Nat) (m : List Int) (hm : RInts w [] (.slice bo m.length d) m) (hlm : l.length ≤ 1000) (hmm : m.length ≤ 1000) :
    Calls Tryd.prog 46 #[.slice ao l.length c, .slice bo m.length d] w fun e w' => (joinAllF l m = none ∧ e = .returned (.tuple #[.slice none 0 0, .bool false]) ∨ ∃ j, joinAllF l m = some j ∧ ∃ ao' cap', e = .returned (.tuple #[.slice ao' j.length cap', .bool true]) ∧ ∀ M : List Nat, (∀ i ∈ M, i < w.heap.size) → RInts w' M (.slice ao' j.length cap') j) ∧ Tch [] w w' := by
  obtain ⟨i0, hi0, hz00, hz01, hz02⟩ := info_parts info_intC
  by_cases hne : l.length = m.length
  · have hat := fun j (hj : j < l.length) => at_ints hl j hj
    have hbt := fun j (hj : j < m.length) => at_ints hm j hj
    have hml : (m.length : Int) = (l.length : Int) := by omega
    have HNE := Lib.hid hne
    have heq : ((l.length : Int) != (m.length : Int)) = false := by simp [hne]
    clear hl hm hne hml
    go_enter Tryd.func46, Tryd.ntmps46
    go_wp2_with fail
    go_loopw [17, 6] (fun iv v wz => ∃ (k : Nat) (out : List Int) (a3 : Option Addr) (c3 : Nat), k ≤ l.length ∧ iv = .int .i64 k ∧ v = .slice a3 k c3 ∧ out.length = k ∧ joinAllF l m = (joinAllF (l.drop k) (m.drop k)).map (out ++ ·) ∧ wz.ownsRow 0 3 1 (.slice a3 k c3) k (ints out) ∧ (∀ n, (Value.slice a3 k c3).ownBlock = some n → w.heap.size ≤ n) ∧ Tch [] w wz) (fun iv _ _ => l.length - (intOf iv).toNat)
    case atStart => exact ⟨0, [], none, 0, by omega, rfl, rfl, rfl, by simp, World.ownsRow_nil _ _ _ _, by simp [Value.ownBlock], Tch.refl _ _⟩
    case round =>
      obtain ⟨k, out, a3, c3, hk1, rfl, rfl, hol, hd, ho, hge, t⟩ := hrel
      by_cases hk : k < l.length
      · have hkm : k < m.length := by rw [← HNE.out]; exact hk
        have hdd := joinAll_drop l m k hk hkm
        obtain ⟨y, ey, ad, hax, q, _⟩ := hat k hk
        obtain ⟨z, ez, bd, hbx, qz, _⟩ := hbt k hkm
        have gy : l[k] = y := by rw [← ey]; simp [List.getD, List.getElem?_eq_getElem hk]
        have gz : m[k] = z := by rw [← ez]; simp [List.getD, List.getElem?_eq_getElem hkm]
        rw [gy, gz] at hdd
        rw [hdd] at hd
        have u1 : ∀ x : TW [] wr, x.w.cell? (ad.add k) = some (.int .i64 y) := fun x => q _ (t.then x.t)
        have u2 : ∀ x : TW [] wr, x.w.cell? (bd.add k) = some (.int .i64 z) := fun x => qz _ (t.then x.t)
        subst hax hbx
        obtain ⟨v0, hv0⟩ : ∃ v, joinV y z = v := ⟨_, rfl⟩
        obtain ⟨b0, hb0⟩ : ∃ b, joinB y z = b := ⟨_, rfl⟩
        have hJ : ∀ x : TW [] wr, Calls Tryd.prog 60 #[.int .i64 y, .int .i64 z] x.w fun e w' => e = .returned (.tuple #[.int .i64 v0, .bool b0]) ∧ x.w = w' := fun x => by rw [← hv0, ← hb0]; exact lab_Join y z x.w
        rw [hv0, hb0] at hd
        have HD := Lib.hid hd
        have HOL := Lib.hid hol
        clear hd hdd gy gz ey ez q qz hat hbt hv0 hb0 hol
        go_wp2_with fail
        refine wp_region_tch (L := []) (w0 := wr) (by kernel_rfl) (by kernel_rfl) (Tch.refl [] wr) ?_
        repeat (go_big_quiet_step ((first | rfl | (go_at_call 60; exact tch_of_same (hJ _)))))
        refine wpQuiet_nil ?_
        intro _ hw'
        obtain ⟨x, rfl⟩ := hw'
        cases b0
        · have HN := Lib.hid (show joinAllF l m = none by rw [HD.out]; rfl)
          go_wp2_with fail
          go_ret2
          exact ⟨.inl ⟨HN.out, rfl⟩, t.then x.t⟩
        · have hox := ownsRow_tch ho x.t (fun _ _ => by simp)
          have hbnd : k + 1 ≤ 9223372036854775807 ∧ (k + 1) * 8 ≤ 140737488355328 := by omega
          go_wp2_with (at_builtin; refine wpList_append_any _ rfl (.tmp 34) (.tmp 36) 22 rfl 3 i0 (.int .i64 0) 1 8 Tryd.underlying22 hi0 hz00 hz01 hz02 rfl (by decide) (.slice a3 k c3) k (ints out) rfl (hox.alloc _) [] _ 1 _ rfl (src_new _ _ [] _ _ 1 1 (Tch.refl [] _) (by simp)) rfl (by intro u hu; simp at hu; subst hu; rfl) hbnd ?_; intro ao5 cap5 w5 hown5 hgrow5 hat5)
          have zx := (t.then x.t).size
          go_roundw
          case rel =>
            refine ⟨k + 1, out ++ [v0], ao5, cap5, by omega, by go_num, rfl, by simp [HOL.out], ?_, by rw [ints_append]; exact hown5, fun n hn => ?_, ((t.then x.t).alloc _).grown hgrow5 (fun n hn => .inr (hge n hn))⟩
            · rw [HD.out]
              simp only [if_true, Option.map_map]
              congr 1
              funext r
              simp
            · rcases hat5 with e | e
              · rw [e] at hn; exact hge n hn
              · rw [e] at hn; simp at hn; omega
          case measure => simp [intOf]; omega
      · have hkl : l.length = k := by omega
        have hres : joinAllF l m = some out := by
          rw [hd, List.drop_eq_nil_of_le (by omega), List.drop_eq_nil_of_le (by rw [← HNE.out]; omega)]
          simp [joinAllF]
        have HR := Lib.hid hres
        have HOL := Lib.hid hol
        clear hd hres hat hbt hol hkl
        go_wp2_with fail
        go_ret2
        refine ⟨.inr ⟨out, HR.out, a3, c3, by rw [HOL.out]; try rfl, fun M hM => ?_⟩, t⟩
        have ho2 : wr.ownsRow 0 3 1 (.slice a3 out.length c3) out.length (ints out) := by rw [HOL.out]; exact ho
        exact src_of_owns ho2 M (fun n hn hx => by
          have h1 := hge n (by rw [HOL.out] at hn; exact hn)
          have h2 := hM n hx
          omega)
  · have hn := joinAll_ne l m hne
    have heq : ((l.length : Int) != (m.length : Int)) = true := by simp; omega
    go_enter Tryd.func46, Tryd.ntmps46
    go_wp2_with fail
    go_ret2
    exact ⟨.inl ⟨hn, rfl⟩, Tch.refl _ _⟩
end Go.Proofs.YtpabkjjonbhdeaaDoor
