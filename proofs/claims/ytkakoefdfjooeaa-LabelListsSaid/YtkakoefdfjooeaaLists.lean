/-
  STATEMENT: LabelLists: of any two lists whether the one fits the other, and what both are: the walk. Conditions: none.
-/
import Derived.Test.YtkakoefdfjooeaaFew
import Derived.Test.YtkakoefdfjooeaaKn6
import Derived.StillTailTactics
namespace Go.Proofs.Ytkakoefdfjooeaa
open Go.RowKit Go.Tcn
set_option linter.unusedVariables false
set_option linter.unusedSimpArgs false
theorem tdiv10 (a : Int) (w : -9223372036854775808 ≤ a ∧ a ≤ 9223372036854775807) : -9223372036854775808 ≤ a.tdiv 10 ∧ a.tdiv 10 ≤ 9223372036854775807 := by
  rw [Int.tdiv_eq_ediv]
  split
  · omega
  · have e : Int.sign 10 = 1 := rfl
    omega
/-- A number of an owned row, written. -/
theorem owns_int_set {w : World} {E : TypeId} {g n cap : Nat} {q : List Int} (h : w.ownsRow 0 E 1 (.slice (some ⟨g, 0, none⟩) n cap) n (ins q)) (j : Nat) (y : Int) : (w.setCell ⟨g, j, none⟩ (.int .i64 y)).ownsRow 0 E 1 (.slice (some ⟨g, 0, none⟩) n cap) n (ins (q.set j y)) := by
  have := (h.stored j (.int .i64 y)).1
  simpa [ins, List.map_set] using this
theorem owns_at {w : World} {E : TypeId} {v : Value} {n : Nat} {q : List Value} (h : w.ownsRow 0 E 1 v n q) (hn : 0 < n) : ∃ g cap, v = .slice (some ⟨g, 0, none⟩) n cap ∧ w.frozen? ⟨g, 0, none⟩ = false := by
  rcases h.2 with ⟨_, h2⟩ | ⟨g, cap, cur, rfl, hr⟩
  · have := h.1; subst h2; simp at this; omega
  · exact ⟨g, cap, rfl, World.ownsRow.frozenAt h 0⟩
set_option maxRecDepth 100000 in
set_option maxHeartbeats 4000000 in
theorem labelLists_walk (W : World) (u0 u1 : Value) (l0 l1 : List Int) (hs0 : Src W [] u0 l0.length (ins l0)) (hb0 : I64 l0) (hm0 : l0.length ≤ 9223372036854775807) (hs1 : Src W [] u1 l1.length (ins l1)) (hb1 : I64 l1) (hm1 : l1.length ≤ 9223372036854775807)
    (b2 : Bool) (a3 : Int) (w3 : -9223372036854775808 ≤ a3 ∧ a3 ≤ 9223372036854775807) :
    Calls Try.prog 9 #[u0, u1, .bool b2, .int .i64 a3] W fun e w' => e = .returned (.bool true) ∧ Tch [] W w' := by
  obtain ⟨i0, hi, hz0, hz1, hz2⟩ := info_parts info_int
  have hd := tdiv10 a3 w3
  go_enter Try.func9, Try.ntmps9
  go_wp2_with fail
  refine (lab_few _ [] u0 l0 hs0 hb0 hm0 true).mono ?_
  rintro e w1 ⟨ao0, cap0, rfl, ho0, hg0, t1⟩
  go_wp2_with fail
  refine (lab_few _ [] u1 l1 (hs1.tch t1 (by simp)) hb1 hm1 true).mono ?_
  rintro e w2 ⟨ao1, cap1, rfl, ho1, hg1, t2⟩
  have hx := (src_of_owns ho0 [] (by simp)).tch t2 (by simp)
  have hlx : (fewK l0 true).length ≤ 10 := by rw [fewK_length]; omega
  have hly : (fewK l1 true).length ≤ 10 := by rw [fewK_length]; omega
  have tW := t1.then t2
  clear hs0 hs1 hb0 hb1 hm0 hm1 ho0 hg0 t1 t2 hg1
  generalize fewK l0 true = x at *
  generalize fewK l1 true = y0 at *
  go_upto_if 19 with fail
  go_cut [10] (fun v wz => ∃ (y : List Int) (ao : Option Addr) (cap : Nat), v = .slice ao y.length cap ∧ wz.ownsRow 0 3 1 v y.length (ins y) ∧ y.length ≤ 10 ∧ Tch [] w2 wz)
  case first =>
    cases b2
    · go_wp2_with fail
      go_meet
      case rel => exact ⟨y0, _, _, rfl, ho1, hly, Tch.refl _ _⟩
    · have hown0 : (w2.alloc (.cells #[] 3)).ownsRow 0 3 1 (.slice (some ⟨w2.heap.size, 0, none⟩) 0 0) 0 [] := World.ownsRow_lit w2 #[] 0 (Nat.zero_le _) (by decide) rfl
      have ta : Tch [] w2 (w2.alloc (.cells #[] 3)) := (Tch.refl [] w2).alloc _
      have hxa := hx.tch ta (by simp)
      have hbn : 0 + x.length ≤ 9223372036854775807 ∧ (0 + x.length) * 8 ≤ 140737488355328 := by omega
      have happ : x.length = 0 ∨ 0 < x.length := by omega
      rcases happ with h0 | h0
      · obtain rfl : x = [] := List.eq_nil_of_length_eq_zero h0
        clear h0
        go_wp2_with (at_builtin; refine wpList_append_any _ rfl (.tmp 20) (.tmp 21) 54 rfl 3 i0 (.int .i64 0) 1 8 Try.underlying54 hi hz0 hz1 hz2 rfl (by decide) (.slice (some ⟨w2.heap.size, 0, none⟩) 0 0) 0 [] rfl hown0 [] _ 0 [] rfl hxa rfl (by simp) (by omega) ?_; intro ao3 cap3 w3' hown hgrow hat; simp only [Nat.zero_add, List.nil_append] at hown hat ⊢)
        go_meet
        case rel => exact ⟨[], _, _, rfl, hown, by simp, ta.grown hgrow (fun g h => .inr (by simp [Value.ownBlock] at h; omega))⟩
      · go_wp2_with (at_builtin; refine wpList_append_any _ rfl (.tmp 20) (.tmp 21) 54 rfl 3 i0 (.int .i64 0) 1 8 Try.underlying54 hi hz0 hz1 hz2 rfl (by decide) (.slice (some ⟨w2.heap.size, 0, none⟩) 0 0) 0 [] rfl hown0 [] (.slice ao0 x.length cap0) x.length (ins x) rfl hxa (by simp [ins_length]) (ins_one x) hbn ?_; intro ao3 cap3 w3' hown hgrow hat; simp only [Nat.zero_add, List.nil_append] at hown hat ⊢; go_upto_region 6 with fail)
        have t3 : Tch [] w2 w3' := ta.grown hgrow (fun g h => .inr (by simp [Value.ownBlock] at h; omega))
        obtain ⟨g, cap4, hv, hfz⟩ := owns_at hown h0
        simp only [Value.slice.injEq] at hv
        obtain ⟨rfl, _, rfl⟩ := hv
        have hgl : w2.heap.size ≤ g := by
          rcases hat with e | e
          · simp [Value.ownBlock] at e; omega
          · simp [Value.ownBlock] at e; omega
        obtain ⟨j, hj⟩ : ∃ j : Nat, a3 % (x.length : Int) = (j : Int) := ⟨(a3 % (x.length : Int)).toNat, by have := Int.emod_nonneg a3 (show (x.length : Int) ≠ 0 by omega); omega⟩
        have hjl : j < x.length := by have := Int.emod_lt_of_pos a3 (show (0 : Int) < (x.length : Int) by omega); omega
        have hp1 := fun w => hand_Pick a3 x.length w3 (by omega) (by omega) w
        rw [hj] at hp1
        clear hj hxa hat hgrow hown0 ta
        have hp2 := fun w => hand_Pick (a3.tdiv 10) 4 hd (by omega) (by omega) w
        have hr4 : 0 ≤ a3.tdiv 10 % 4 ∧ a3.tdiv 10 % 4 < 4 := by omega
        have hset := owns_int_set hown j (1 + a3.tdiv 10 % 4)
        have hcell := hown.cellAt j (by omega)
        have hlt : (ins x)[j]? = some (.int .i64 x[j]) := by simp [ins, hjl]
        rw [hlt] at hcell
        have hfz := World.ownsRow.frozenAt hown j
        refine (hp1 _).mono ?_
        rintro e w' ⟨rfl, rfl⟩
        go_wp2_with fail
        refine (hp2 _).mono ?_
        rintro e w' ⟨rfl, rfl⟩
        clear hp1 hp2
        go_wp2_with fail
        go_meet
        case rel => exact ⟨x.set j (1 + a3.tdiv 10 % 4), _, _, by rw [List.length_set], by rw [List.length_set]; exact hset, by rw [List.length_set]; omega, t3.setCell (.inr hgl) _⟩
  case rest =>
    obtain ⟨y, ao, cap, rfl, hoy, hly2, tz⟩ := hcut
    have hxz := hx.tch tz (by simp)
    have hyz := src_of_owns hoy [] (by simp)
    have tW2 := tW.then tz
    clear hx ho1 hoy tz tW hly
    go_wp2_with fail
    refine (lab_JoinAll _ [] [] _ _ x y hxz hyz (by omega) (by omega)).mono ?_
    rintro e w5 ⟨ao5, cap5, rfl, ho5, hg5, t5⟩
    go_wp2_with fail
    refine (ref_JoinAll _ [] [] _ _ x y (hxz.tch t5 (by simp)) (hyz.tch t5 (by simp)) (by omega) (by omega)).mono ?_
    rintro e w6 ⟨ao6, cap6, rfl, ho6, hg6, t6⟩
    go_upto_region 9 with fail
    have s1 := (src_of_owns ho5 [] (by simp)).tch t6 (by simp)
    have s2 := src_of_owns ho6 [] (by simp)
    have hjl : (joinO x y).length ≤ 10 := by
      unfold joinO
      cases h : joinL x y with
      | none => simp
      | some p => have := joinL_out x y p h; simp; omega
    have sx := (hxz.tch t5 (by simp)).tch t6 (by simp)
    have sy := (hyz.tch t5 (by simp)).tch t6 (by simp)
    have tW3 := (tW2.then t5).then t6
    clear ho5 ho6 hg5 hg6 t5 t6 hxz hyz tW2
    generalize joinO x y = p at *
    generalize joinK x y = b at *
    have k2 := fun w sa sb => (ints_eq w [] [] (.slice ao5 p.length cap5) (.slice ao6 p.length cap6) p p sa sb (by omega) (by omega)).mono (R' := fun e w' => e = .returned (.bool true) ∧ Tch [] w w') fun _ _ h => ⟨by rw [h.1]; simp, h.2⟩
    have k3 := fun w sa sb => lab_FitsAll w [] [] (.slice ao0 x.length cap0) (.slice ao y.length cap) x y sa sb (by omega) (by omega)
    have k4 := fun w sa sb => ref_FitsAll w [] [] (.slice ao0 x.length cap0) (.slice ao y.length cap) x y sa sb (by omega) (by omega)
    generalize fitsL x y = c at *
    have h2 := Lib.hid k2; have h3 := Lib.hid k3; have h4 := Lib.hid k4
    clear k2 k3 k4
    cases b
    all_goals
      cases c
      all_goals
        go_wp2_with fail
        refine (lab_known6 _).mono ?_
        rintro e w7 ⟨rfl, rfl⟩
        go_wp2_with fail
        refine (h2.out _ s1 s2).mono ?_
        rintro e w7 ⟨rfl, t7⟩
        go_wp2_with fail
        refine (h3.out _ (sx.tch t7 (by simp)) (sy.tch t7 (by simp))).mono ?_
        rintro e w8 ⟨rfl, t8⟩
        go_wp2_with fail
        refine (h4.out _ ((sx.tch t7 (by simp)).tch t8 (by simp)) ((sy.tch t7 (by simp)).tch t8 (by simp))).mono ?_
        rintro e w9 ⟨rfl, t9⟩
        go_wp2_with fail
        go_ret
        exact ⟨rfl, ((tW3.then t7).then t8).then t9⟩
end Go.Proofs.Ytkakoefdfjooeaa
