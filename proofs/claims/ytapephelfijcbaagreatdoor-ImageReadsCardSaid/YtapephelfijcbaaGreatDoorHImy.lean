/-
  CONTRACTS: chapter 4's example. Conditions: utf8's tables as they are laid.
-/
import Derived.Test.YtapephelfijcbaaGreatDoorHImw
import Derived.Test.YtapephelfijcbaaGreatDoorHImx
import Derived.Test.YtapephelfijcbaaGreatDoorHIml
import Derived.Deep.RegionHeld3
namespace Go.Tcn
open Go.RowKit
set_option linter.unusedVariables false
set_option linter.unusedSimpArgs false
def smallI : Img := ⟨[112, 105, 110, 45, 49], [], [], [⟨[], 0, [], [⟨39, 0, 0⟩]⟩], []⟩
def smallB : List Int := [84, 65, 67, 73, 1, 5, 112, 105, 110, 45, 49, 0, 0, 1, 0, 0, 0, 1, 39, 0]
end Go.Tcn
namespace Go.Proofs.YtapephelfijcbaaGreatDoor
open Go.RowKit Go.Tcn
set_option linter.unusedVariables false
set_option linter.unusedSimpArgs false
set_option maxRecDepth 100000 in
theorem small_ok : imgB smallI = true := by decide +kernel
set_option maxRecDepth 100000 in
theorem small_enc : encImg smallI = smallB := by decide +kernel
theorem small_z : ImgZ smallI := by
  refine ⟨by decide, by decide, by decide, by decide, ?_, by decide⟩
  intro m hm
  simp [smallI] at hm
  subst hm
  refine ⟨by decide, by decide, by decide, ?_⟩
  intro x hx
  simp at hx
  subst hx
  unfold I6; decide
set_option maxRecDepth 100000 in
set_option maxHeartbeats 4000000 in
theorem law4_small (w : World) : Calls Tryz.prog 30 #[] w fun e w' => ∃ (am : Addr), e = .returned (.agg #[.string ⟨#[112, 105, 110, 45, 49]⟩, .slice none 0 0, .slice none 0 0, .slice (some am) 1 1, .slice none 0 0]) ∧ RMths w' [] (.slice (some am) 1 1) smallI.methods ∧ Tch [] w w' := by
  obtain ⟨V, hVd⟩ : ∃ V, V = ((w.alloc (.cells #[.string ⟨#[]⟩, .slice none 0 0, .slice none 0 0, .slice none 0 0, .slice none 0 0] 27)).alloc (.cells #[.int .i64 39, .int .i64 0, .int .i64 0] 47)).alloc (.cells #[.slice none 0 0, .int .i64 0, .slice none 0 0, .slice (some ⟨w.heap.size + 1, 0, none⟩) 1 1] 50) := ⟨_, rfl⟩
  go_enter Tryz.func30, Tryz.ntmps30
  go_wp2_with fail
  refine bodyPost_ret (v := .agg #[.string ⟨#[112, 105, 110, 45, 49]⟩, .slice none 0 0, .slice none 0 0, .slice (some ⟨w.heap.size + 1 + 1, 0, none⟩) 1 1, .slice none 0 0]) (by simp [results, Tryz.results30, go_sem]) rfl ?_
  refine ⟨⟨w.heap.size + 1 + 1, 0, none⟩, rfl, ?_, (((Tch.refl [] w).alloc _).alloc _).alloc _⟩
  obtain ⟨W1, hW1⟩ : ∃ W1, W1 = w.alloc (.cells #[.string ⟨#[112, 105, 110, 45, 49]⟩, .slice none 0 0, .slice none 0 0, .slice (some ⟨w.heap.size + 1 + 1, 0, none⟩) 1 1, .slice none 0 0] 27) := ⟨_, rfl⟩
  have s1 : W1.heap.size = w.heap.size + 1 := by rw [hW1]; simp
  rw [← hW1, ← s1]
  obtain ⟨W2, hW2⟩ : ∃ W2, W2 = W1.alloc (.cells #[.int .i64 39, .int .i64 0, .int .i64 0] 47) := ⟨_, rfl⟩
  have s2 : W2.heap.size = W1.heap.size + 1 := by rw [hW2]; simp
  have hc : Src W2 [] (.slice (some ⟨W1.heap.size, 0, none⟩) 1 1) 1 [.int .i64 39, .int .i64 0, .int .i64 0] := by rw [hW2]; exact src_new W1 _ [] _ _ 1 1 (Tch.refl [] _) (by simp)
  rw [← hW2, ← s2]
  have hc2 := hc.tch ((Tch.refl [] W2).alloc (.cells #[.slice none 0 0, .int .i64 0, .slice none 0 0, .slice (some ⟨W1.heap.size, 0, none⟩) 1 1] 50)) (by simp)
  have hm : Src (W2.alloc (.cells #[.slice none 0 0, .int .i64 0, .slice none 0 0, .slice (some ⟨W1.heap.size, 0, none⟩) 1 1] 50)) [] (.slice (some ⟨W2.heap.size, 0, none⟩) 1 1) 1 [.slice none 0 0, .int .i64 0, .slice none 0 0, .slice (some ⟨W1.heap.size, 0, none⟩) 1 1] := src_new W2 _ [] _ _ 1 1 (Tch.refl [] _) (by simp)
  refine ⟨[[.slice none 0 0, .int .i64 0, .slice none 0 0, .slice (some ⟨W1.heap.size, 0, none⟩) 1 1]], rfl, by simp, by simpa [smallI] using hm, ?_⟩
  intro k cs x h1 h2
  rcases k with _ | k
  · simp [smallI] at h1 h2
    subst h1; subst h2
    exact ⟨_, _, _, rfl, ⟨.inl ⟨rfl, rfl, rfl⟩⟩, ⟨.inl ⟨rfl, rfl, rfl⟩⟩, hc2⟩
  · simp at h1
theorem nilI (w : World) : RInts w [] (.slice none 0 0) [] := ⟨.inl ⟨rfl, rfl, rfl⟩⟩
theorem nilP (w : World) : RImps w [] (.slice none 0 0) [] := ⟨[], rfl, by simp, ⟨.inl ⟨rfl, rfl, rfl⟩⟩, by simp⟩
set_option maxRecDepth 100000 in
set_option maxHeartbeats 8000000 in
theorem law4_known (w : World) (hV : ∀ nm w', nm.length ≤ 16 → Tch [] w w' → Calls Tryz.prog 77 #[.string ⟨nm.toArray⟩] w' fun e w'' => e = .returned (.bool (Lib.validD nm)) ∧ Tch [] w' w'') : Calls Tryz.prog 9 #[] w fun e w' => e = .returned (.bool true) ∧ Tch [] w w' := by
  go_enter Tryz.func9, Tryz.ntmps9
  go_wp2_with fail
  refine (law4_small w).mono ?_
  rintro e w1 ⟨am, rfl, rm, t1⟩
  have hLay := im_Lay_ok w1 smallI (.slice none 0 0) (.slice none 0 0) (.slice (some am) 1 1) (.slice none 0 0) (nilI _) (nilP _) rm (nilI _) small_z (fun nm w' h16 t => hV nm w' h16 (t1.then t)) small_ok
  rw [small_enc] at hLay
  go_wp2_with fail
  refine hLay.mono ?_
  rintro e w2 ⟨ao, cap, rfl, ho, ⟨g, rfl, hg⟩, t2⟩
  have hS := src_of_owns ho [] (by simp)
  have hcap : 20 ≤ cap := by
    rcases hS.ex with ⟨h, _⟩ | ⟨ad, c, h, hm, _⟩
    · cases h
    · simp only [Value.slice.injEq] at h
      have : smallB.length = 20 := rfl
      omega
  have t12 := t1.then t2
  have hRd := im_Read w2 _ smallB [] hS (by intro x hx; simp [smallB] at hx; omega) (by decide) (fun nm w' h16 t => hV nm w' h16 (t12.then t))
  have hri : readImg smallB = (smallI, 0) := by rw [← small_enc]; exact readImg_enc _ small_ok
  rw [hri] at hRd
  have hsl : smallB.length = 20 := rfl
  have hnm : (smallI, (0 : Int)).1.name.toArray = #[112, 105, 110, 45, 49] := rfl
  rw [hnm] at hRd
  rw [hsl] at hRd ho hS ⊢
  clear hLay hri
  go_wp2_with fail
  refine hRd.mono ?_
  rintro e w3 ⟨vf, vi, vm, ve, rfl, r1, r2, r3, r4, _, t3⟩
  obtain ⟨pf, cf, hf1⟩ : ∃ pf cf, vf = .slice pf 0 cf := Src.form r1
  obtain ⟨pi, ci, hf2⟩ : ∃ pf cf, vi = .slice pf 0 cf := RImps.form r2
  obtain ⟨pm, cm, hf3⟩ : ∃ pf cf, vm = .slice pf 1 cf := RMths.form r3
  obtain ⟨pe, ce, hf4⟩ : ∃ pf cf, ve = .slice pf 0 cf := Src.form r4
  subst hf1 hf2 hf3 hf4
  clear hRd
  obtain ⟨V, hVd⟩ : ∃ V, V = w3.alloc (.cells #[.string ⟨#[112, 105, 110, 45, 49]⟩, .slice pf 0 cf, .slice pi 0 ci, .slice pm 1 cm, .slice pe 0 ce] 27) := ⟨_, rfl⟩
  have tV : Tch [] w3 V := by rw [hVd]; exact (Tch.refl [] w3).alloc _
  have t3V := t3.then tV
  have hB : ∀ W, Tch [] V W → B5 W w3.heap.size (.string ⟨#[112, 105, 110, 45, 49]⟩) (.slice pf 0 cf) (.slice pi 0 ci) (.slice pm 1 cm) (.slice pe 0 ce) := fun W t => by
    refine B5.tch ?_ t
    rw [hVd]; exact B5.new _ _ _ _ _ _ _
  have hSame : ∀ W am2, Tch [] V W → RMths W [] (.slice (some am2) 1 1) smallI.methods → Calls Tryz.prog 31 #[.agg #[.string ⟨#[112, 105, 110, 45, 49]⟩, .slice pf 0 cf, .slice pi 0 ci, .slice pm 1 cm, .slice pe 0 ce], .agg #[.string ⟨#[112, 105, 110, 45, 49]⟩, .slice none 0 0, .slice none 0 0, .slice (some am2) 1 1, .slice none 0 0]] W fun e w' => e = .returned (.bool true) ∧ Tch [] W w' := fun W am2 t hm2 => by
    have h := im_Same W smallI smallI (.slice pf 0 cf) (.slice pi 0 ci) (.slice pm 1 cm) (.slice pe 0 ce) (.slice none 0 0) (.slice none 0 0) (.slice (some am2) 1 1) (.slice none 0 0) (RInts.tch r1 (tV.then t) (by simp)) (RImps.tch r2 (tV.then t) (by simp)) (RMths.tch r3 (tV.then t) (by simp)) (RInts.tch r4 (tV.then t) (by simp)) (nilI _) (nilP _) hm2 (nilI _) small_z small_z
    rw [decide_eq_true rfl] at h
    exact h
  have hcut : ∀ W, (Instr.slice 30 (.slice (some ⟨g, 0, none⟩) 20 cap) none (some (.int .i64 11)) none).run Tryz.prog W = .ok (.slice (some ⟨g, 0, none⟩) 11 cap) W := fun W => run_cut_h 30 5 1 Tryz.underlying30 (by kernel_rfl) (by kernel_rfl) (some ⟨g, 0, none⟩) 20 cap 11 (by omega) W
  have hS3 : Src V [] (.slice (some ⟨g, 0, none⟩) 20 cap) 20 (bys smallB) := hS.tch t3V (by simp)
  have hS4 : Src V [] (.slice (some ⟨g, 0, none⟩) 11 cap) ([84, 65, 67, 73, 1, 5, 112, 105, 110, 45, 49] : List Int).length (bys [84, 65, 67, 73, 1, 5, 112, 105, 110, 45, 49]) := hS3.cut_h (n := 11) (sz := 1) (by omega)
  have hcsW := fun W (t : Tch [] V W) => run_str (P := Tryz.prog) 30 5 9 Tryz.underlying30 Tryz.underlying5 Tryz.underlying9 (hS4.tch t (by simp))
  have est : strOfNums [84, 65, 67, 73, 1, 5, 112, 105, 110, 45, 49] = ⟨#[84, 65, 67, 73, 1, 5, 112, 105, 110, 45, 49]⟩ := by rfl
  rw [est] at hcsW
  have T3 := t12.then t3V
  go_upto_region 3 with fail
  rw [← hVd]
  clear hVd r1 r2 r3 r4 hS hS3 hS4 est t3 t1 t2 ho hg tV t3V rm
  have hSall : ∀ w', Tch [] V w' → Tch [] V w' ∧ w'.cell? ⟨w3.heap.size, 0, none⟩ = some (.string ⟨#[112, 105, 110, 45, 49]⟩) ∧ w'.cell? ⟨w3.heap.size, 1, none⟩ = some (.slice pf 0 cf) ∧ w'.cell? ⟨w3.heap.size, 2, none⟩ = some (.slice pi 0 ci) ∧ w'.cell? ⟨w3.heap.size, 3, none⟩ = some (.slice pm 1 cm) ∧ w'.cell? ⟨w3.heap.size, 4, none⟩ = some (.slice pe 0 ce) ∧ (convert 30 9 (.slice (some ⟨g, 0, none⟩) 11 cap)).run Tryz.prog w' = .ok (.string ⟨#[84, 65, 67, 73, 1, 5, 112, 105, 110, 45, 49]⟩) w' := fun W t => by
    obtain ⟨b0, b1, b2, b3, b4⟩ := hB W t
    exact ⟨t, b0, b1, b2, b3, b4, hcsW W t⟩
  go_region_held3 (fun w' => Tch [] V w' ∧ w'.cell? ⟨w3.heap.size, 0, none⟩ = some (.string ⟨#[112, 105, 110, 45, 49]⟩) ∧ w'.cell? ⟨w3.heap.size, 1, none⟩ = some (.slice pf 0 cf) ∧ w'.cell? ⟨w3.heap.size, 2, none⟩ = some (.slice pi 0 ci) ∧ w'.cell? ⟨w3.heap.size, 3, none⟩ = some (.slice pm 1 cm) ∧ w'.cell? ⟨w3.heap.size, 4, none⟩ = some (.slice pe 0 ce) ∧ (convert 30 9 (.slice (some ⟨g, 0, none⟩) 11 cap)).run Tryz.prog w' = .ok (.string ⟨#[84, 65, 67, 73, 1, 5, 112, 105, 110, 45, 49]⟩) w') (first | assumption | exact hSall _ ((Tch.refl [] V).drew) | exact hSall _ t4 | exact hSall _ (t4.then t5)) (first | (go_at_call 30; refine (law4_small _).mono ?_; rintro e w4 ⟨am2, rfl, rm2, t4'⟩; have t4 : Tch [] V w4 := (((Tch.refl [] V).drew).trans t4' (by simp) (by simp))) | (go_at_call 31; refine (hSame w4 am2 t4 rm2).mono ?_; rintro e w5 ⟨rfl, t5⟩))
  all_goals
    go_wp2_with fail
    go_ret
    exact ⟨rfl, T3.then (t4.then t5)⟩
end Go.Proofs.YtapephelfijcbaaGreatDoor
