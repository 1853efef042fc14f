/-
  CONTRACTS: lists of numbers compared; an applet found by its name. Conditions: none.
  CONTRACTS: link.Resolve and taciturnref8.Resolve: whom an import calls. Conditions: none.
-/
import Derived.Test.YteebapopeaafhaaGreatDoorHCodeP
import Derived.Test.YteebapopeaafhaaGreatDoorHHand
namespace Go.Tcn
open Go.RowKit
set_option linter.unusedVariables false
set_option linter.unusedSimpArgs false
def RImgs (w : World) (v : Value) (l : List Img) : Prop := RL w [] 5 (RImg w []) v l
theorem RImgs.tch {w w' : World} {v : Value} {l : List Img} (h : RImgs w v l) (ht : Tch [] w w') : RImgs w' v l := RL.tch h (fun _ _ r => r.tch ht (by simp)) ht (by simp)
theorem RImgs.form {w : World} {v : Value} {l : List Img} (h : RImgs w v l) : ∃ ao c, v = .slice ao l.length c := by
  obtain ⟨css, h1, h2, h3, h4⟩ := h.ex
  exact h3.form
/-- One applet of a list, as it lies. -/
theorem RImgs.at {w : World} {ao : Option Addr} {m c : Nat} {l : List Img} (h : RImgs w (.slice ao m c) l) {k : Nat} (hk : k < l.length) :
    ∃ ad vf vi vm ve, ao = some ad ∧ ad.block < w.heap.size ∧ RInts w [] vf l[k].fields ∧ RImps w [] vi l[k].imports ∧ RMths w [] vm l[k].methods ∧ RInts w [] ve l[k].exports ∧
      (∀ (j : Nat) u, #[str l[k].name, vf, vi, vm, ve].toList[j]? = some u → w.cell? ((ad.add (k * 5)).add j) = some u) := by
  obtain ⟨ad, cs, rfl, a1, a2, a3, ⟨vf, vi, vm, ve, rfl, b1, b2, b3, b4⟩, a5⟩ := RL.at h hk (by omega)
  refine ⟨ad, vf, vi, vm, ve, rfl, a1, b1, b2, b3, b4, fun j u hj => ?_⟩
  have := a5 j u (by simpa using hj)
  rw [Addr_add_add]
  exact this
end Go.Tcn
namespace Go.Proofs.YteebapopeaafhaaGreatDoor
open Go.RowKit Go.Tcn
set_option linter.unusedVariables false
set_option linter.unusedSimpArgs false

set_option maxRecDepth 100000 in
set_option maxHeartbeats 4000000 in
theorem lk_equal (w : World) (v0 v1 : Value) (a b : List Int) (h0 : RInts w [] v0 a) (h1 : RInts w [] v1 b) (hm0 : a.length ≤ 9223372036854775807) (hm1 : b.length ≤ 9223372036854775807) :
    Calls Tryz.prog 48 #[v0, v1] w fun e w' => e = .returned (.bool (decide (a = b))) ∧ Tch [] w w' := by
  obtain ⟨a0, c0, rfl⟩ := h0.form
  obtain ⟨a1, c1, rfl⟩ := h1.form
  by_cases hl : a.length = b.length
  · have hcell : ∀ k x y, a[k]? = some x → b[k]? = some y → ∃ ad0 ad1, a0 = some ad0 ∧ a1 = some ad1 ∧ w.cell? (ad0.add k) = some (.int .i64 x) ∧ w.cell? (ad1.add k) = some (.int .i64 y) := fun k x y hx hy => by
      obtain ⟨hk, rfl⟩ := List.getElem?_eq_some_iff.1 hx
      obtain ⟨hk', rfl⟩ := List.getElem?_eq_some_iff.1 hy
      obtain ⟨ad0, e0, l0, _, q0⟩ := Src.at h0 (j := k) (by simp; omega)
      obtain ⟨ad1, e1, l1, _, q1⟩ := Src.at h1 (j := k) (by simp; omega)
      exact ⟨ad0, ad1, e0, e1, by simpa [ints] using q0, by simpa [ints] using q1⟩
    clear h0 h1
    rw [← hl]
    have HL := Lib.hid hl
    clear hl
    go_enter Tryz.func48, Tryz.ntmps48
    go_wp2_with fail
    go_loopw [13] (fun i wz => ∃ k : Nat, k ≤ a.length ∧ i = .int .i64 k ∧ a.take k = b.take k ∧ Tch [] w wz) (fun i _ => a.length - (intOf i).toNat)
    case atStart => exact ⟨0, by omega, rfl, by simp, Tch.refl _ _⟩
    case round =>
      obtain ⟨k, hk1, rfl, htk, ht⟩ := hrel
      have hl := HL.out
      by_cases hk : k < a.length
      · have hk' : k < b.length := by omega
        obtain ⟨x, hx⟩ : ∃ x, x = a[k] := ⟨_, rfl⟩
        obtain ⟨y, hy⟩ : ∃ y, y = b[k] := ⟨_, rfl⟩
        have hak : a.take (k + 1) = a.take k ++ [x] := hx ▸ (List.take_append_getElem hk).symm
        have hbk : b.take (k + 1) = b.take k ++ [y] := hy ▸ (List.take_append_getElem hk').symm
        have hne : x ≠ y → a ≠ b := fun h e => h (by rw [hx, hy]; simp [e])
        obtain ⟨ad0, ad1, rfl, rfl, q0, q1⟩ := hcell k x y (by rw [hx]; simp [hk]) (by rw [hy]; simp [hk'])
        have q0r : wr.drew.cell? (ad0.add k) = some (.int .i64 x) := (ht.cell (cell_lt q0) (by simp)).trans q0
        have q1r : wr.drew.cell? (ad1.add k) = some (.int .i64 y) := (ht.cell (cell_lt q1) (by simp)).trans q1
        clear hcell q0 q1 hl hx hy hk'
        have HT := Lib.hid htk; clear htk
        by_cases hxy : x = y
        · subst hxy
          go_wp2_with fail
          go_region
          all_goals go_wp2
          all_goals go_roundw
          all_goals (first | (case rel => exact ⟨k + 1, by omega, by go_num, by rw [hak, hbk, HT.out], ht.drew⟩) | (case measure => simp [intOf]; omega))
        · have hd : decide (a = b) = false := decide_eq_false (hne hxy)
          have hb : (x == y) = false := beq_eq_false_iff_ne.2 hxy
          have hb2 : (x != y) = true := by simp [hxy]
          go_wp2_with fail
          go_region
          all_goals go_wp2
          all_goals (first | go_ret | go_ret2 | go_end0)
          all_goals exact ⟨by rw [hd]; rfl, ht.drew⟩
      · have he : a = b := by
          have e1 : a.take k = a := List.take_of_length_le (by omega)
          have e2 : b.take k = b := List.take_of_length_le (by omega)
          rw [← e1, htk, e2]
        have HE := Lib.hid he; clear he
        clear hcell htk hl
        go_wp2_with fail
        (first | go_ret | go_ret2 | go_end0)
        exact ⟨by rw [decide_eq_true HE.out]; rfl, ht⟩
  · have hd : decide (a = b) = false := decide_eq_false (fun e => hl (by rw [e]))
    rw [hd]
    have hb : (((a.length : Int)) != ((b.length : Int))) = true := by simp; omega
    go_enter Tryz.func48, Tryz.ntmps48
    go_wp2_with fail
    (first | go_ret | go_ret2 | go_end0)
    exact ⟨rfl, Tch.refl _ _⟩

end Go.Proofs.YteebapopeaafhaaGreatDoor
namespace Go.Tcn
open Go.RowKit
set_option linter.unusedVariables false
set_option linter.unusedSimpArgs false
/-- An import of a list, as it lies. -/
theorem RImps.at {w : World} {L : List Nat} {ao : Option Addr} {m c : Nat} {l : List Imp} (h : RImps w L (.slice ao m c) l) {k : Nat} (hk : k < l.length) :
    ∃ ad vp, ao = some ad ∧ ad.block < w.heap.size ∧ RInts w L vp l[k].params ∧ (∀ (j : Nat) u, #[str l[k].name, .int .i64 l[k].exp, vp, .int .i64 l[k].result].toList[j]? = some u → w.cell? ((ad.add (k * 4)).add j) = some u) := by
  obtain ⟨ad, cs, rfl, a1, a2, a3, ⟨vp, rfl, b1⟩, a5⟩ := RL.at h hk (by omega)
  exact ⟨ad, vp, rfl, a1, b1, fun j u hj => by rw [Addr_add_add]; exact a5 j u (by simpa using hj)⟩
theorem RMths.at {w : World} {L : List Nat} {ao : Option Addr} {m c : Nat} {l : List Mth} (h : RMths w L (.slice ao m c) l) {k : Nat} (hk : k < l.length) :
    ∃ ad vp vl vc, ao = some ad ∧ ad.block < w.heap.size ∧ RInts w L vp l[k].params ∧ RInts w L vl l[k].locals ∧ RCode w L vc l[k].code ∧ (∀ (j : Nat) u, #[vp, .int .i64 l[k].result, vl, vc].toList[j]? = some u → w.cell? ((ad.add (k * 4)).add j) = some u) := by
  obtain ⟨ad, cs, rfl, a1, a2, a3, ⟨vp, vl, vc, rfl, b1, b2, b3⟩, a5⟩ := RL.at h hk (by omega)
  exact ⟨ad, vp, vl, vc, rfl, a1, b1, b2, b3, fun j u hj => by rw [Addr_add_add]; exact a5 j u (by simpa using hj)⟩
theorem RImps.form {w : World} {L : List Nat} {v : Value} {l : List Imp} (h : RImps w L v l) : ∃ ao c, v = .slice ao l.length c := by
  obtain ⟨css, h1, h2, h3, h4⟩ := h.ex
  exact h3.form
theorem RMths.form {w : World} {L : List Nat} {v : Value} {l : List Mth} (h : RMths w L v l) : ∃ ao c, v = .slice ao l.length c := by
  obtain ⟨css, h1, h2, h3, h4⟩ := h.ex
  exact h3.form
end Go.Tcn
namespace Go.Proofs.YteebapopeaafhaaGreatDoor
open Go.RowKit Go.Tcn
set_option linter.unusedVariables false
set_option linter.unusedSimpArgs false

end Go.Proofs.YteebapopeaafhaaGreatDoor
