/-
  CHAPTER 1's EXAMPLE: taciturnlaw1.known answers true; it turns nothing that was there. Conditions: none.
-/
import Derived.Test.YtkakoefdfjooeaaRd
namespace Go.Proofs.Ytkakoefdfjooeaa
open Go.RowKit Go.Tcn
set_option linter.unusedVariables false
set_option linter.unusedSimpArgs false
set_option maxRecDepth 100000 in
set_option maxHeartbeats 1000000 in
theorem oct_known (w : World) : Calls Try.prog 12 #[] w fun e w' => e = .returned (.bool true) ∧ Tch [] w w' := by
  have hstr := fun wx L v l h => run_str (P := Try.prog) 27 5 9 Try.underlying27 Try.underlying5 Try.underlying9 (w := wx) (L := L) (v := v) (l := l) h
  have hcv := fun (w : World) (C : Array Value) (n c : Nat) => Lib.run_convert_bytes_const (P := Try.prog) w 27 5 C n c Try.underlying27 Try.underlying5
  go_enter Try.func12, Try.ntmps12
  go_wp2_with fail
  refine (oct_new _).mono ?_
  rintro e w1 ⟨rfl, rfl⟩
  have h1 := Wr.new w 62 5
  have t1 : Tch [] w (w.alloc (.cells #[.slice none 0 0] 62)) := (Tch.refl [] w).alloc _
  go_wp2_with fail
  refine (oct_U16 _ _ _ _ _ h1 (by omega) (by simp)).mono ?_
  rintro e w2 ⟨rfl, r2, h2, hr2, t2⟩
  have hp2 := h2.lt
  have hq2 := h2.row_lt
  have h3 := h2.tch (L := []) ((Tch.refl [] w2).alloc (.cells #[.int .u8 97, .int .u8 98] 5 (2, 3))) (by simp) (by simp)
  have s3 : Src (w2.alloc (.cells #[.int .u8 97, .int .u8 98] 5 (2, 3))) [w.heap.size, r2] (.slice (some ⟨w2.heap.size, 0, none⟩) 2 2) 2 (bys [97, 98]) := src_new w2 _ _ #[.int .u8 97, .int .u8 98] 5 2 2 (Tch.refl [] _) (by simp; omega)
  go_wp2_with fail
  refine (oct_Short _ _ _ _ h3 [w.heap.size, r2] _ [97, 98] s3 (by simp) (by simp) (by simp [putN_length]) (by simp)).mono ?_
  rintro e w4 ⟨rfl, r4, h4, hr4, t4⟩
  have e4 : shortN ([] ++ putN 258 2) [97, 98] = [1, 2, 2, 97, 98] := by decide
  rw [e4] at h4
  go_wp2_with fail
  refine (oct_Bytes _ _ _ _ h4 (by simp)).mono ?_
  rintro e w5 ⟨ao, cap, rfl, h5, hg5, t5⟩
  have hs := hstr w5 [] _ [1, 2, 2, 97, 98] (src_of_owns h5 [] (by simp))
  have es : strOfNums [1, 2, 2, 97, 98] = ⟨#[1, 2, 2, 97, 98]⟩ := by rfl
  rw [es] at hs
  simp only [List.length_cons, List.length_nil, Nat.zero_add, Nat.reduceAdd] at hs
  clear hg5 h5 hstr
  go_wp2
  go_ret
  refine ⟨rfl, ?_⟩
  have a2 : Tch [w.heap.size] w w2 := t1.trans t2 (by simp) (by intro i hi hx; simp at hx ⊢; omega)
  have a3 := a2.alloc (.cells #[.int .u8 97, .int .u8 98] 5 (2, 3))
  have a4 : Tch [w.heap.size] w w4 := a3.trans t4 (by simp) (by intro i hi hx; simp at hx hr2 ⊢; omega)
  exact (a4.trans t5 (by intro i hi hx; simp at hx; omega) (by simp))
end Go.Proofs.Ytkakoefdfjooeaa
