/-
  CONTRACTS: chapter 3's example. Conditions: none.
-/
import Derived.Test.YtkhoipeblakgiaaInstr
namespace Go.Proofs.Ytkhoipeblakgiaa
open Go.RowKit Go.Tcn
set_option linter.unusedVariables false
set_option linter.unusedSimpArgs false
/-- Bytes of a writer, read by a reader. -/
theorem oct_BytesS (w : World) (p row : Nat) (l : List Int) (h : Wr w 63 5 p row l) (hl : l.length ≤ 140737488355328) :
    Calls Try.prog 16 #[.pointer (some ⟨p, 0, none⟩)] w fun e w' => ∃ ao cap, e = .returned (.slice ao l.length cap) ∧ Src w' [] (.slice ao l.length cap) l.length (bys l) ∧ Tch [] w w' :=
  (oct_Bytes w p row l h hl).mono fun e w' ⟨ao, cap, he, ho, _, t⟩ => ⟨ao, cap, he, src_of_owns ho [] (by simp), t⟩
set_option maxRecDepth 100000 in
set_option maxHeartbeats 2000000 in
theorem known3 (w : World) : Calls Try.prog 11 #[] w fun e w' => e = .returned (.bool true) ∧ Tch [] w w' := by
  have hstr := fun wx L v l h => run_str (P := Try.prog) 31 5 9 Try.underlying31 Try.underlying5 Try.underlying9 (w := wx) (L := L) (v := v) (l := l) h
  have hR : rightI 1 (-1) 0 = true := by decide
  have hE : [] ++ encI 1 (-1) 0 = [1, 255, 255, 255, 255] := by decide
  have hRd : readI [1, 255, 255, 255, 255] false = ((1, -1, 0), 0, [], false) := by decide
  go_enter Try.func11, Try.ntmps11
  go_wp2_with fail
  refine (oct_new _).mono ?_
  rintro e w1 ⟨rfl, rfl⟩
  have h1 := Wr.new w 63 5
  have t1 : Tch [] w (w.alloc (.cells #[.slice none 0 0] 63)) := (Tch.refl [] w).alloc _
  go_wp2_with fail
  refine (code_Lay _ _ _ _ 1 (-1) 0 (by omega) (by omega) (by omega) hR h1 (by simp)).mono ?_
  rintro e w2 ⟨rfl, r2, h2, hr2, t2⟩
  rw [hE] at h2
  have a2 : Tch [] w w2 := t1.trans t2 (by simp) (by intro i hi hx; simp at hx; omega)
  clear t1 t2 h1 hr2 hR hE
  go_wp2_with fail
  refine (oct_BytesS _ _ _ _ h2 (by simp)).mono ?_
  rintro e w3 ⟨ao, cap, rfl, s3, t3⟩
  have hs := hstr w3 [] _ [1, 255, 255, 255, 255] s3
  have es : strOfNums [1, 255, 255, 255, 255] = ⟨#[1, 255, 255, 255, 255]⟩ := by rfl
  rw [es] at hs
  simp only [List.length_cons, List.length_nil, Nat.zero_add, Nat.reduceAdd] at hs
  have h3 := h2.tch t3 (by simp) (by simp)
  clear s3 h2
  go_wp2_with fail
  refine (oct_BytesS _ _ _ _ h3 (by simp)).mono ?_
  rintro e w4 ⟨ao4, cap4, rfl, s4, t4⟩
  clear hs h3
  go_wp2_with fail
  refine (oct_NewReader _ [] (by simp) [] _ [1, 255, 255, 255, 255] s4 (by intro x hx; simp at hx; omega) (by simp)).mono ?_
  rintro e w5 ⟨q, rfl, hq, h5, t5⟩
  go_wp2_with fail
  refine (code_Read _ q [] _ _ h5 (by simp) _ hRd).mono ?_
  rintro e w6 ⟨rfl, h6, t6⟩
  have a6 : Tch [] w w6 := ((a2.then t3).then t4 |>.then t5).trans t6 (by simp) (by intro i hi hx; have := (a2.then t3).size; have := t4.size; simp at hx; omega)
  clear h5 h6 s4 t3 t4 t5 t6 a2 hstr hRd
  have t7 := a6.alloc (.cells #[.int .i64 1, .int .i64 (-1), .int .i64 0] 25)
  go_wp2_with fail
  go_ret
  exact ⟨rfl, t7⟩
end Go.Proofs.Ytkhoipeblakgiaa
