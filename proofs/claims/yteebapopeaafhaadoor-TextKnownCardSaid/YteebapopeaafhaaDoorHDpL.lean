/-
  CONTRACTS: a strings.Builder that is a printer's field: copyCheck, WriteString, String. Conditions: the text is at most 2^47 bytes.
  CONTRACTS: a printer's line of words. Conditions: the text is shorter than 2^46 bytes.
  CONTRACTS: text.names: the names of kinds behind other words. Conditions: fewer than 2^40 words.
  CONTRACTS: a printer's line of an instruction. Conditions: the text is shorter than 2^46 bytes; strconv.Itoa's contract.
  CONTRACTS: text.Print: its state. Conditions: none.
-/
import Derived.Test.YteebapopeaafhaaDoorHTx2
import Derived.Shelf.Strings.BuilderK
import Derived.Test.YteebapopeaafhaaDoorHCode5
import Derived.Test.YteebapopeaafhaaDoorHTnD
import Derived.Test.YteebapopeaafhaaDoorHImr
namespace Go.Tcn
open Go.RowKit
end Go.Tcn
namespace Go.Proofs.YteebapopeaafhaaDoor
open Go.RowKit Go.Tcn
set_option linter.unusedVariables false
set_option linter.unusedSimpArgs false
theorem pr_liesB : liesAt Tryd.prog Tryd.prog.depth 64 (2 / Tryd.prog.cellsOf 64) 0 62 1 = true := by kernel_rfl
theorem pr_sizeB : ∃ j, Tryd.prog.info? 62 = some j ∧ j.size = 2 := Option.map_eq_some_iff.1 (show (Tryd.prog.info? 62).map (·.size) = some 2 by kernel_rfl)
set_option maxHeartbeats 1000000 in
set_option maxRecDepth 100000 in
theorem b_check_used (b : Nat) (w : World) (h0 : w.cell? ⟨b, 0, none⟩ = some (.pointer (some ⟨b, 0, none⟩))) :
    Calls Tryd.prog 82 #[.pointer (some ⟨b, 0, none⟩)] w fun e w' => e = .returned (.tuple #[]) ∧ w' = w := by
  obtain ⟨j, hj, _⟩ := pr_sizeB
  go_enter Tryd.func82, Tryd.ntmps82
  go_wp2
  all_goals (first | (rw [Lib.run_neq_ptr_same w _ Tryd.underlying59 hj]; go_wp2) | skip)
  go_end0
  exact ⟨rfl, rfl⟩
set_option maxHeartbeats 1000000 in
set_option maxRecDepth 100000 in
theorem b_check_fresh (b : Nat) (w : World) (h0 : w.cell? ⟨b, 0, none⟩ = some (.pointer none)) (hsh : w.shape? b = some (64, 2)) (hfz : w.frozen? ⟨b, 0, none⟩ = false) :
    Calls Tryd.prog 82 #[.pointer (some ⟨b, 0, none⟩)] w fun e w' => e = .returned (.tuple #[]) ∧ w' = w.setCell ⟨b, 0, none⟩ (.pointer (some ⟨b, 0, none⟩)) := by
  obtain ⟨j, hj, hjs⟩ := pr_sizeB
  go_enter Tryd.func82, Tryd.ntmps82
  go_wp2
  rw [Lib.run_to_unsafe w ⟨b, 0, none⟩ Tryd.underlying59 Tryd.underlying120 hj (by rw [hjs]; decide) hsh (Nat.zero_lt_succ 1)]
  simp only [Result.andThen]
  rw [Oper.upon_value]
  go_wp2
  rw [run_callFunc_extern Tryd.func100 (by kernel_rfl) (by kernel_rfl) (by kernel_rfl) (e := Extern.AbiNoEscape.same) (by kernel_rfl)]
  rw [Lib.run_noEscape]
  simp only [Result.andThen]
  rw [Oper.upon_value]
  go_wp2
  rw [Lib.run_from_unsafe w ⟨b, 0, none⟩ Tryd.underlying120 Tryd.underlying59 hj hsh pr_liesB]
  simp only [Result.andThen]
  rw [Oper.upon_value]
  go_wp2
  go_end0
  exact ⟨rfl, rfl⟩
theorem b_check (B b : Nat) (bs : List Value) (w : World) (h : Lib.IsBuilderF 64 5 B b bs w) :
    Calls Tryd.prog 82 #[.pointer (some ⟨b, 0, none⟩)] w fun e w' => e = .returned (.tuple #[]) ∧ (Lib.BuilderAtF 64 5 B b (.pointer (some ⟨b, 0, none⟩)) bs w' ∧ Below B w w' ∧ Lib.OthersKept 5 (some b) w w') := by
  rcases h with h | h
  · refine (b_check_fresh b w h.cell0 h.shape h.frozen0).mono ?_
    rintro e w' ⟨rfl, rfl⟩
    exact ⟨rfl, h.used _, (Below.refl B w).setCell (p := ⟨b, 0, none⟩) h.1 _, (Lib.OthersKept.refl _ _ w).setCell ⟨b, 0, none⟩ rfl _⟩
  · refine (b_check_used b w h.cell0).mono ?_
    rintro e w' ⟨rfl, rfl⟩
    exact ⟨rfl, h, Below.refl B _, Lib.OthersKept.refl _ _ _⟩
set_option maxHeartbeats 2000000 in
set_option maxRecDepth 100000 in
theorem b_write (B b : Nat) (bs : List Value) (s : ByteArray) (w : World) (h : Lib.IsBuilderF 64 5 B b bs w) (hlen : bs.length + s.size ≤ 140737488355328) (hBw : B ≤ w.heap.size) :
    Calls Tryd.prog 53 #[.pointer (some ⟨b, 0, none⟩), .string s] w fun e w' => e = .returned (.tuple #[.int .i64 s.size, .nilIface]) ∧ (Lib.BuilderAtF 64 5 B b (.pointer (some ⟨b, 0, none⟩)) (bs ++ Lib.strCells s) w' ∧ Below B w w' ∧ Lib.OthersKept 5 (some b) w w') := by
  obtain ⟨i0, hi, hz0, hz1, hz2⟩ := info_parts (show (Tryd.prog.info? 5).map (fun i => (i.zero, i.size, i.bytes)) = some (some (.int .u8 0), 1, 1) by kernel_rfl)
  go_enter Tryd.func53, Tryd.ntmps53
  go_wp2_with (go_at_call 82; refine (b_check B b bs _ h).mono ?_)
  rintro e w1 ⟨rfl, h1, hb1, hk1⟩
  obtain ⟨hB, v, hbk, hown, hne⟩ := h1
  have c0 : w1.cell? ⟨b, 0, none⟩ = some (.pointer (some ⟨b, 0, none⟩)) := by rw [Lib.cell_of_heap hbk]; rfl
  have c1 : w1.cell? ⟨b, 1, none⟩ = some v := by rw [Lib.cell_of_heap hbk]; rfl
  go_wp2_with (at_builtin; refine Lib.wpList_append_own_stringF _ rfl _ _ 60 9 rfl B 5 i0 Tryd.underlying60 Tryd.underlying9 hi hz0 hz1 hz2 _ _ _ rfl hown s rfl ?c3 ?c4 ?c5 ?_)
  case c3 => unfold maxLen; omega
  case c4 => omega
  case c5 => have := hb1.size; omega
  intro v' w2 hown' hgrow _
  have hlt : b < w1.heap.size := by
    rcases Nat.lt_or_ge b w1.heap.size with h' | h'
    · exact h'
    · simp [Array.getElem?_eq_none h'] at hbk
  have hb2 : w2.heap[b]? = some (.cells #[.pointer (some ⟨b, 0, none⟩), v] 64 (0, 0)) := by
    rw [hgrow.block b hlt (fun e => hne e.symm)]
    exact hbk
  have d0 : w2.cell? ⟨b, 0, none⟩ = some (.pointer (some ⟨b, 0, none⟩)) := by rw [Lib.cell_of_heap hb2]; rfl
  have d1 : w2.cell? ⟨b, 1, none⟩ = some v := by rw [Lib.cell_of_heap hb2]; rfl
  have f1 : w2.frozen? ⟨b, 1, none⟩ = false := Lib.frozen_of_heap hb2 1
  obtain ⟨ao, n', cap, rfl⟩ : ∃ ao n' cap, v' = .slice ao n' cap := by
    rcases hown'.2 with ⟨hv, _⟩ | ⟨g, cap, cur, fz, hv, _⟩
    · exact ⟨_, _, _, hv⟩
    · exact ⟨_, _, _, hv⟩
  go_wp2
  go_ret2
  refine ⟨rfl, ?_, ?_, (hk1.grown hgrow (Lib.ownsRowF_kind hown)).setCell ⟨b, 1, none⟩ rfl _⟩
  · exact Lib.BuilderAtF.put (T := 64) (e := 5) hB hb2 (bs' := bs ++ Lib.strCells s) (by simpa [Lib.strCells_length] using hown') (by decide)
  · exact (hb1.grown hgrow (by have := hb1.size; omega) (fun k hk => (hown.lt k hk).1)).setCell (p := ⟨b, 1, none⟩) hB _
set_option maxHeartbeats 1000000 in
set_option maxRecDepth 100000 in
theorem b_string (B b : Nat) (l : List UInt8) (w : World) (h : Lib.IsBuilderF 64 5 B b (Lib.byteCells l) w) (h0 : l ≠ []) :
    Calls Tryd.prog 29 #[.pointer (some ⟨b, 0, none⟩)] w fun e w' => e = .returned (.string ⟨l.toArray⟩) ∧ Below B w w' := by
  obtain ⟨p, hp, hAt⟩ : ∃ p, (p = .pointer none ∨ p = .pointer (some ⟨b, 0, none⟩)) ∧ Lib.BuilderAtF 64 5 B b p (Lib.byteCells l) w := by
    rcases h with h | h
    · exact ⟨_, .inl rfl, h⟩
    · exact ⟨_, .inr rfl, h⟩
  obtain ⟨hB, v, hbk, hown, hne⟩ := hAt
  have hl0 : l.length ≠ 0 := by simpa using h0
  rw [Lib.byteCells_length] at hown
  obtain ⟨g, cap, cur, fz, rfl, hbg, hg, hfz, hnc, hcm, hcs, htake⟩ : ∃ g cap cur fz, v = .slice (some ⟨g, 0, none⟩) l.length cap ∧ B ≤ g ∧ w.heap[g]? = some (.cells cur 5 fz) ∧ fz.2 ≤ l.length * 1 ∧ l.length ≤ cap ∧ cap ≤ maxLen ∧ cur.size = cap * 1 ∧ cur.toList.take (l.length * 1) = Lib.byteCells l := by
    rcases hown.2 with ⟨_, hz⟩ | ⟨g, cap, cur, fz, hv, r⟩
    · exact absurd hz hl0
    · exact ⟨g, cap, cur, fz, hv, r⟩
  have c1 : w.drew.cell? ⟨b, 1, none⟩ = some (.slice (some ⟨g, 0, none⟩) l.length cap) := by
    have : w.drew.heap[b]? = some (.cells #[p, .slice (some ⟨g, 0, none⟩) l.length cap] 64 (0, 0)) := hbk
    rw [Lib.cell_of_heap this]; rfl
  have hSD : (Builtin.unsafeSliceData_ #[60] 92 #[.slice (some ⟨g, 0, none⟩) l.length cap]).run Tryd.prog w.drew = .ok (.pointer (some ⟨g, 0, none⟩)) w.drew :=
    Lib.run_unsafeSliceData_row _ _ _ _ _ _ (by omega)
  have hUS : (Builtin.unsafeString_ #[92, 3] 9 #[.pointer (some ⟨g, 0, none⟩), .int .i64 l.length]).run Tryd.prog w.drew = .ok (.string ⟨l.toArray⟩) (w.drew.freeze ⟨g, 0, none⟩ l.length) := by
    refine Lib.run_unsafeString_row w.drew 92 3 9 5 Tryd.underlying92 (by kernel_rfl) g cur.size (by have hg' : w.drew.heap[g]? = some (.cells cur 5 fz) := hg; simp [World.shape?, hg']) l h0 (by omega) (by unfold maxLen at hcm; omega) ?_
    intro j x hx
    have := hown.cells (g := g) rfl j (.int .u8 x.toNat) (by simp [Lib.byteCells, hx])
    exact this
  have mixed : Tryd.prog.follows .mixedOrders = true := by kernel_rfl
  go_enter Tryd.func29, Tryd.ntmps29
  go_wp2
  go_region_o
  all_goals (go_wp2; go_ret; exact ⟨rfl, Lib.below_freeze (Below.drew (Below.refl B w)) (p := ⟨g, 0, none⟩) hbg _⟩)
end Go.Proofs.YteebapopeaafhaaDoor
namespace Go.Tcn
open Go Go.RowKit
/-- What a printer's call leaves: below the base, and all that is no row of bytes, is as it was. -/
structure Kp (U : TypeId) (B b : Nat) (w w' : World) : Prop where
  below : Below B w w'
  kept : Lib.OthersKept U (some b) w w'
theorem Kp.refl {U : TypeId} {B b : Nat} (w : World) : Kp U B b w w := ⟨Below.refl B w, Lib.OthersKept.refl _ _ w⟩
theorem Kp.trans {U : TypeId} {B b : Nat} {w1 w2 w3 : World} (h : Kp U B b w1 w2) (k : Kp U B b w2 w3) : Kp U B b w1 w3 := ⟨h.below.trans k.below, h.kept.trans k.kept⟩
theorem Kp.of_tch {U : TypeId} {B b : Nat} {w w' : World} (t : Tch [] w w') (hB : B ≤ w.heap.size) : Kp U B b w w' :=
  ⟨⟨t.os, t.tape, t.output, t.size, fun k hk => t.block k (by omega) (by simp)⟩, fun k o hk _ _ => (t.block k (heap_lt hk) (by simp)).trans hk⟩
/-- From the first world on, nothing is turned. -/
theorem Kp.tch {U : TypeId} {B b : Nat} {w0 w w' : World} (h : Kp U B b w w') (t : Tch [] w0 w) (hB : w0.heap.size ≤ B) : Tch [] w0 w' :=
  ⟨h.below.os.trans t.os, h.below.tape.trans t.tape, h.below.output.trans t.output, Nat.le_trans t.size h.below.size, fun k hk hx => (h.below.block k (by omega)).trans (t.block k hk hx)⟩
theorem bcells_tch {T U : TypeId} {B b : Nat} {bs : List Value} {w w' : World} (h : Lib.IsBuilderF T U B b bs w) (t : Tch [] w w') : Lib.IsBuilderF T U B b bs w' := by
  have go : ∀ p, Lib.BuilderAtF T U B b p bs w → Lib.BuilderAtF T U B b p bs w' := fun p h => by
    obtain ⟨hB, v, hb, hown, hne⟩ := h
    refine ⟨hB, v, (t.block b (heap_lt hb) (by simp)).trans hb, ⟨hown.1, ?_⟩, hne⟩
    rcases hown.2 with h0 | ⟨g, cap, cur, fz, h1, h2, h3, h4⟩
    · exact .inl h0
    · exact .inr ⟨g, cap, cur, fz, h1, h2, (t.block g (heap_lt h3) (by simp)).trans h3, h4⟩
  rcases h with h | h
  · exact .inl (go _ h)
  · exact .inr (go _ h)
theorem bcells_str (a b : Wd) : Lib.byteCells a ++ Lib.strCells ⟨b.toArray⟩ = Lib.byteCells (a ++ b) := by
  simp [Lib.byteCells, Lib.strCells]
end Go.Tcn
namespace Go.Proofs.YteebapopeaafhaaDoor
open Go.RowKit Go.Tcn
set_option linter.unusedVariables false
set_option linter.unusedSimpArgs false
set_option maxHeartbeats 2000000 in
set_option maxRecDepth 100000 in
theorem pr_line (B b : Nat) (s : Wd) (w : World) (L : List Nat) (a0 : Option Addr) (c0 : Nat) (ws : List Wd) (h : Lib.IsBuilderF 64 5 B b (Lib.byteCells s) w) (hBw : B ≤ w.heap.size)
    (hs : Src w L (.slice a0 ws.length c0) ws.length (strs ws)) (hl : ws.length ≤ 1099511627776) (hj : (joinW ws).length ≤ 1099511627776) (hlen : s.length + (joinW ws).length + 1 ≤ 70368744177664) :
    Calls Tryd.prog 25 #[.pointer (some ⟨b, 0, none⟩), .slice a0 ws.length c0] w fun e w' => e = .returned (.tuple #[]) ∧ Lib.IsBuilderF 64 5 B b (Lib.byteCells (s ++ joinW ws ++ [10])) w' ∧ Kp 5 B b w w' := by
  have hJ := lib_Join w.drew L a0 c0 ws (hs.tch ((Tch.refl [] w).drew) (by simp)) hl hj
  have hW1 : ∀ w1, Tch [] w w1 → Calls Tryd.prog 53 #[.pointer (some ⟨b, 0, none⟩), .string ⟨(joinW ws).toArray⟩] w1 fun e w' => (∃ v, e = .returned v) ∧ Lib.IsBuilderF 64 5 B b (Lib.byteCells (s ++ joinW ws)) w' ∧ Kp 5 B b w1 w' := fun w1 t => by
    refine (b_write B b _ ⟨(joinW ws).toArray⟩ w1 (bcells_tch h t) (by rw [Lib.byteCells_length]; simp [ByteArray.size]; omega) (Nat.le_trans hBw t.size)).mono ?_
    rintro e w' ⟨rfl, h1, h2, h3⟩
    rw [bcells_str] at h1
    exact ⟨⟨_, rfl⟩, .inr h1, ⟨h2, h3⟩⟩
  have hW2 : ∀ w1, B ≤ w1.heap.size → Lib.IsBuilderF 64 5 B b (Lib.byteCells (s ++ joinW ws)) w1 → Calls Tryd.prog 53 #[.pointer (some ⟨b, 0, none⟩), .string ⟨#[10]⟩] w1 fun e w' => (∃ v, e = .returned v) ∧ Lib.IsBuilderF 64 5 B b (Lib.byteCells (s ++ joinW ws ++ [10])) w' ∧ Kp 5 B b w1 w' := fun w1 hb h1 => by
    refine (b_write B b _ ⟨#[10]⟩ w1 h1 (by rw [Lib.byteCells_length]; simp [ByteArray.size]; omega) hb).mono ?_
    rintro e w' ⟨rfl, h1, h2, h3⟩
    have e1 := bcells_str (s ++ joinW ws) [10]
    rw [e1] at h1
    exact ⟨⟨_, rfl⟩, .inr h1, ⟨h2, h3⟩⟩
  clear hs hl hj hlen
  generalize joinW ws = jw at *
  go_enter Tryd.func25, Tryd.ntmps25
  go_upto_region 0 with fail
  go_region_with (first | (go_at_call 54; refine hJ.mono ?_; rintro e w1 ⟨rfl, t1⟩; have hW1' := hW1 w1 ((Tch.refl [] w).drew.then t1)) | (go_at_call 53; refine hW1'.mono ?_; rintro e w2 ⟨⟨v2, rfl⟩, h2, k2⟩))
  all_goals
    have t1' := (Tch.refl [] w).drew.then t1
    have k2' := (Kp.of_tch (U := 5) (b := b) t1' hBw).trans k2
    have hB2 : B ≤ w2.heap.size := Nat.le_trans hBw k2'.below.size
    have hW3 := hW2 w2 hB2 h2
    clear hW1 hW2 hJ
    go_wp2_with fail
    refine hW3.mono ?_
    rintro e w3 ⟨⟨v3, rfl⟩, h3, k3⟩
    go_wp2_with fail
    go_end0
    exact ⟨rfl, h3, k2'.trans k3⟩
end Go.Proofs.YteebapopeaafhaaDoor
namespace Go.Proofs.YteebapopeaafhaaDoor
open Go.RowKit Go.Tcn
set_option linter.unusedVariables false
set_option linter.unusedSimpArgs false
set_option maxRecDepth 100000 in
set_option maxHeartbeats 4000000 in
theorem pr_names (w0 w : World) (v : Value) (pre : List Wd) (ak : Option Addr) (ck : Nat) (ks : List Int) (hv : NewRow w0 w 9 1 v pre.length (strs pre)) (t0 : Tch [] w0 w) (h : RInts w0 [] (.slice ak ks.length ck) ks) (hl : pre.length + ks.length ≤ 1099511627776) :
    Calls Tryd.prog 26 #[v, .slice ak ks.length ck] w fun e w' => ∃ v', e = .returned v' ∧ NewRow w0 w' 9 1 v' (pre ++ ks.map kindNm).length (strs (pre ++ ks.map kindNm)) ∧ Tch [] w0 w' := by
  obtain ⟨i0, hi, hz0, hz1, hz2⟩ := info_parts info_strT
  go_enter Tryd.func26, Tryd.ntmps26
  go_wp2_with fail
  go_loopw [0, 9] (fun o i wz => ∃ (k : Nat) (v : Value), k ≤ ks.length ∧ o = v ∧ i = .int .i64 k ∧ NewRow w0 wz 9 1 v (pre ++ (ks.take k).map kindNm).length (strs (pre ++ (ks.take k).map kindNm)) ∧ Tch [] w0 wz) (fun _ i _ => ks.length - (intOf i).toNat)
  case atStart => exact ⟨0, v, by omega, rfl, rfl, by simpa using hv, t0⟩
  case round =>
    obtain ⟨k, vv, hk1, rfl, rfl, hv1, ht⟩ := hrel
    clear hv t0
    by_cases hk : k < ks.length
    · obtain ⟨ad, rfl, _, _, hq⟩ := Src.at (h.tch ht (by simp)) (j := k) (by simpa using hk)
      have hq0 : wr.cell? (ad.add k) = some (.int .i64 ks[k]) := by simpa [ints] using hq
      clear hq
      have htk : ks.take (k + 1) = ks.take k ++ [ks[k]] := (List.take_append_getElem hk).symm
      have hnl : (pre ++ (ks.take k).map kindNm).length = pre.length + k := by simp; omega
      have HT : Hid (∀ o : Value, ∀ w2 : World, NewRow w0 w2 9 1 o ((pre ++ (ks.take k).map kindNm).length + 1) (strs (pre ++ (ks.take k).map kindNm) ++ [.string ⟨(kindNm ks[k]).toArray⟩]) → NewRow w0 w2 9 1 o (pre ++ (ks.take (k + 1)).map kindNm).length (strs (pre ++ (ks.take (k + 1)).map kindNm))) := Lib.hid (fun o w2 hh => by
        rw [htk, List.map_append, ← List.append_assoc, List.length_append, strs_append]; exact hh)
      clear htk
      generalize ks[k] = x at *
      generalize pre ++ (ks.take k).map kindNm = wsx at *
      have hown := hv1.1
      have hbnd : wsx.length + 1 ≤ 9223372036854775807 ∧ (wsx.length + 1) * 16 ≤ 140737488355328 := by omega
      have hsz := ht.size
      clear hnl
      go_wp2_with fail
      refine (tx_KindName wr x).mono ?_
      rintro e w1 ⟨rfl, rfl⟩
      generalize kindNm x = nm at *
      go_wp2_with (first | (at_builtin; refine wpList_append_any _ rfl (.tmp 13) (.tmp 16) 39 rfl 9 i0 (.string ⟨#[]⟩) 1 16 Tryd.underlying39 hi hz0 hz1 hz2 rfl (by decide) _ wsx.length (strs wsx) rfl (hown.alloc _) [] _ 1 [.string ⟨nm.toArray⟩] rfl (src_new wr _ [] #[.string ⟨nm.toArray⟩] _ 1 1 (Tch.refl [] _) (by simp)) rfl (one_str nm) hbnd ?_; intro ao cap w3 hown3 hgrow hat) | fail)
      have ht2 : Tch [] w0 w3 := (ht.alloc _).grew hgrow hv1.2
      have hv2 := HT.out _ _ (NewRow.of (w := w0) hv1.2 (by simp; omega) hown3 hat)
      clear HT hown3 hgrow hat hown
      go_roundw
      case rel => exact ⟨k + 1, _, by omega, rfl, by go_num, hv2, ht2⟩
      case measure => simp [intOf]; omega
    · have hke : ks.take k = ks := List.take_of_length_le (by omega)
      rw [hke] at hv1
      clear hke
      go_wp2_with fail
      go_ret
      exact ⟨_, rfl, hv1, ht⟩
end Go.Proofs.YteebapopeaafhaaDoor
namespace Go.Tcn
open Go Go.RowKit
def opsL (x : Ins) : List Wd := if opndN x.op = 0 then [] else if opndN x.op = 1 then [Lib.itoa x.a] else [Lib.itoa x.a, Lib.itoa x.b]
theorem opnd_cases (op : Int) : opndN op = 0 ∨ opndN op = 1 ∨ opndN op = 2 := by
  unfold opndN
  split
  · exact .inr (.inr rfl)
  · split
    · exact .inr (.inl rfl)
    · exact .inl rfl
theorem opsL_len (x : Ins) : ((opsL x).length : Int) = opndN x.op := by
  unfold opsL
  rcases opnd_cases x.op with h | h | h <;> simp [h]
theorem itoa_len32 (n : Int) (hn : -9223372036854775808 ≤ n ∧ n ≤ 9223372036854775807) : (Lib.itoa n).length ≤ 32 := by
  rw [digits_doc]
  split
  · have := dec_len 19 n.natAbs (by omega)
    simp only [List.length_cons]; omega
  · have := dec_len 19 (-n).natAbs (by omega)
    omega
theorem pad_join (x : Ins) : joinW ((32 :: 32 :: nmAt x.op) :: opsL x) = padW (joinW (insWs x)) := by
  unfold insWs opsL padW
  rcases opnd_cases x.op with h | h | h <;> simp [h, joinW]
theorem nmAt_len (op : Int) : (nmAt op).length ≤ 16 := by
  unfold nmAt
  split
  · rename_i h
    have hall : ∀ i : Nat, i < 39 → (nmTab.getD i []).length ≤ 16 := by decide
    exact hall _ (by omega)
  · simp
theorem ins_len (x : Ins) (ha : I6 x.a) (hb : I6 x.b) : (joinW ((32 :: 32 :: nmAt x.op) :: opsL x)).length ≤ 100 := by
  have h1 := nmAt_len x.op
  have h2 := itoa_len32 x.a ha
  have h3 := itoa_len32 x.b hb
  unfold opsL
  rcases opnd_cases x.op with h | h | h <;> simp [h, joinW] <;> omega
/-- strconv.Itoa's contract, from a world on. -/
def ItoC (P : Program) (f : FuncId) (w : World) : Prop := ∀ (n : Int) (w' : World), I6 n → Tch [] w w' → Calls P f #[.int .i64 n] w' fun e w'' => e = .returned (.string ⟨(Lib.itoa n).toArray⟩) ∧ Tch [] w' w''
theorem ItoC.tch {P : Program} {f : FuncId} {w w' : World} (h : ItoC P f w) (t : Tch [] w w') : ItoC P f w' := fun n w'' hn t' => h n w'' hn (t.then t')
end Go.Tcn
namespace Go.Proofs.YteebapopeaafhaaDoor
open Go.RowKit Go.Tcn
set_option linter.unusedVariables false
set_option linter.unusedSimpArgs false
set_option maxRecDepth 100000 in
set_option maxHeartbeats 4000000 in
theorem pr_instr (B b : Nat) (s : Wd) (w : World) (x : Ins) (ha : I6 x.a) (hb : I6 x.b) (h : Lib.IsBuilderF 64 5 B b (Lib.byteCells s) w) (hBw : B ≤ w.heap.size) (hI : ItoC Tryd.prog 27 w) (hlen : s.length + 101 ≤ 70368744177664) :
    Calls Tryd.prog 28 #[.pointer (some ⟨b, 0, none⟩), .agg #[.int .i64 x.op, .int .i64 x.a, .int .i64 x.b]] w fun e w' => e = .returned (.tuple #[]) ∧ Lib.IsBuilderF 64 5 B b (Lib.byteCells (s ++ padW (joinW (insWs x)) ++ [10])) w' ∧ Kp 5 B b w w' := by
  obtain ⟨i0, hi, hz0, hz1, hz2⟩ := info_parts info_strT
  have hil := ins_len x ha hb
  have hpj := pad_join x
  have hol := opsL_len x
  have hnl := nmAt_len x.op
  obtain ⟨W, hW⟩ : ∃ W, W = w.alloc (.cells #[.int .i64 x.op, .int .i64 x.a, .int .i64 x.b] 54) := ⟨_, rfl⟩
  have tW : Tch [] w W := by rw [hW]; exact (Tch.refl [] w).alloc _
  have hc : W.heap[w.heap.size]? = some (.cells #[.int .i64 x.op, .int .i64 x.a, .int .i64 x.b] 54 (0, 0)) := by rw [hW]; exact heap_alloc_new _ _
  obtain ⟨q, hq⟩ : ∃ q, q = w.heap.size := ⟨_, rfl⟩
  rw [← hq] at hc
  have cells : ∀ wx, Tch [] W wx → wx.cell? ⟨q, 0, none⟩ = some (.int .i64 x.op) ∧ wx.cell? ⟨q, 1, none⟩ = some (.int .i64 x.a) ∧ wx.cell? ⟨q, 2, none⟩ = some (.int .i64 x.b) := fun wx t => by
    have hh := (t.block q (heap_lt hc) (by simp)).trans hc
    simp [World.cell?, hh]
  obtain ⟨cx0, cx1, cx2⟩ := cells W (Tch.refl [] W)
  go_enter Tryd.func28, Tryd.ntmps28
  go_upto_region 1 with fail
  rw [← hW, ← hq]
  have hWs : w.heap.size ≤ W.heap.size := tW.size
  clear hW hq
  go_wp2_with fail
  refine (code_Name x.op W).mono ?_
  rintro e w1 ⟨rfl, t1⟩
  have hlc : ¬ (9223372036854775807 < 2 + (nmAt x.op).length) := by omega
  have hst : (⟨#[32, 32]⟩ : ByteArray) ++ ⟨(nmAt x.op).toArray⟩ = ⟨(32 :: 32 :: nmAt x.op : Wd).toArray⟩ := str_app [32, 32] _
  go_upto_region 2 with fail
  obtain ⟨w2, hw2⟩ : ∃ w2, w2 = w1.alloc (.cells #[.string ⟨(32 :: 32 :: nmAt x.op : Wd).toArray⟩] 9) := ⟨_, rfl⟩
  have hown : w2.ownsRow 0 9 1 (.slice (some ⟨w1.heap.size, 0, none⟩) 1 1) 1 (strs [32 :: 32 :: nmAt x.op]) := by rw [hw2]; exact World.ownsRow_lit w1 #[.string ⟨(32 :: 32 :: nmAt x.op : Wd).toArray⟩] 1 (Nat.zero_le _) (by decide) rfl
  have t2 : Tch [] W w2 := by rw [hw2]; exact t1.alloc _
  have hv0 : NewRow W w2 9 1 (.slice (some ⟨w1.heap.size, 0, none⟩) 1 1) 1 (strs [32 :: 32 :: nmAt x.op]) := ⟨hown, fun k hk => by simp [Value.ownBlock] at hk; have := t1.size; omega⟩
  rw [← hw2]
  clear hw2 hown t1 hst hlc
  generalize w1.heap.size = g at *
  obtain ⟨dx0, dx1, dx2⟩ := cells w2 t2
  go_wp2_with fail
  refine (code_Operands x.op w2).mono ?_
  rintro e w3 ⟨rfl, rfl⟩
  rw [← hol]
  go_wp2_with fail
  go_loopw [4, 15] (fun o i wz => ∃ (k : Nat) (v : Value), k ≤ (opsL x).length ∧ o = v ∧ i = .int .i64 k ∧ NewRow W wz 9 1 v ((opsL x).take k).length.succ (strs ((32 :: 32 :: nmAt x.op) :: (opsL x).take k)) ∧ Tch [] W wz) (fun _ i _ => (opsL x).length - (intOf i).toNat)
  case atStart => exact ⟨0, _, by omega, rfl, rfl, by simpa using hv0, t2⟩
  case round =>
    obtain ⟨k, vv, hk1, rfl, rfl, hv1, ht⟩ := hrel
    clear hv0 t2 dx0 dx1 dx2 cx0 cx1 cx2
    obtain ⟨dx0, dx1, dx2⟩ := cells wr ht
    by_cases hk : k < (opsL x).length
    · have htk : (opsL x).take (k + 1) = (opsL x).take k ++ [(opsL x)[k]] := (List.take_append_getElem hk).symm
      have hnl : ((opsL x).take k).length = k := by simp; omega
      have HT : Hid (∀ o : Value, ∀ w2 : World, NewRow W w2 9 1 o (((opsL x).take k).length.succ + 1) (strs ((32 :: 32 :: nmAt x.op) :: (opsL x).take k) ++ [.string ⟨(opsL x)[k].toArray⟩]) → NewRow W w2 9 1 o ((opsL x).take (k + 1)).length.succ (strs ((32 :: 32 :: nmAt x.op) :: (opsL x).take (k + 1)))) := Lib.hid (fun o w2 hh => by
        rw [htk]
        have e : ((opsL x).take k ++ [(opsL x)[k]]).length.succ = ((opsL x).take k).length.succ + 1 := by simp only [List.length_append, List.length_cons, List.length_nil]
        rw [e, ← List.cons_append, strs_append]; exact hh)
      clear htk
      have hop : (k = 0 ∧ (opsL x)[k] = Lib.itoa x.a) ∨ (k ≠ 0 ∧ (opsL x)[k] = Lib.itoa x.b) := by
        rcases opnd_cases x.op with e | e | e
        · simp [opsL, e] at hk
        · have hk' : k = 0 := by simp [opsL, e] at hk; omega
          subst hk'
          exact .inl ⟨rfl, by simp [opsL, e]⟩
        · have hk' : k = 0 ∨ k = 1 := by simp [opsL, e] at hk; omega
          rcases hk' with rfl | rfl
          · exact .inl ⟨rfl, by simp [opsL, e]⟩
          · exact .inr ⟨by omega, by simp [opsL, e]⟩
      have hkd : decide ((k : Int) < ((opsL x).length : Int)) = true := decide_eq_true (by omega)
      have hk2 : k ≤ 1 := by
        have := opnd_cases x.op
        omega
      have hbnd : ((opsL x).take k).length.succ + 1 ≤ 9223372036854775807 ∧ (((opsL x).take k).length.succ + 1) * 16 ≤ 140737488355328 := by
        have := opnd_cases x.op
        omega
      have hI' := hI.tch (tW.then ht)
      generalize strs ((32 :: 32 :: nmAt x.op) :: (opsL x).take k) = S0 at *
      generalize ((opsL x).take k).length.succ = N0 at *
      rcases hop with ⟨rfl, hop⟩ | ⟨hk0, hop⟩
      · rw [hop] at HT
        go_wp2_with fail
        refine (hI' x.a wr ha (Tch.refl [] _)).mono ?_
        rintro e w4 ⟨rfl, t4⟩
        have hv4 := hv1.tch t4
        have ht4 := ht.then t4
        have hown := hv4.1
        have hsz := ht4.size
        clear hI' dx0 dx1 dx2
        generalize Lib.itoa x.a = nm at *
        go_wp2_with (first | (at_builtin; refine wpList_append_any _ rfl (.tmp 24) (.tmp 27) 39 rfl 9 i0 (.string ⟨#[]⟩) 1 16 Tryd.underlying39 hi hz0 hz1 hz2 rfl (by decide) _ N0 S0 rfl (hown.alloc _) [] _ 1 [.string ⟨nm.toArray⟩] rfl (src_new w4 _ [] #[.string ⟨nm.toArray⟩] _ 1 1 (Tch.refl [] _) (by simp)) rfl (one_str nm) hbnd ?_; intro ao cap w5 hown5 hgrow hat) | fail)
        have ht5 : Tch [] W w5 := (ht4.alloc _).grew hgrow hv4.2
        have hv5 := HT.out _ _ (NewRow.of (w := W) hv4.2 (by simp; omega) hown5 hat)
        clear HT hown5 hgrow hat hown
        go_roundw
        case rel => exact ⟨0 + 1, _, by omega, rfl, by go_num, hv5, ht5⟩
        case measure => simp [intOf]; omega
      · rw [hop] at HT
        have hkp : decide ((0 : Int) < (k : Int)) = true := decide_eq_true (by omega)
        go_wp2_with fail
        refine (hI' x.b wr hb (Tch.refl [] _)).mono ?_
        rintro e w4 ⟨rfl, t4⟩
        have hv4 := hv1.tch t4
        have ht4 := ht.then t4
        have hown := hv4.1
        have hsz := ht4.size
        clear hI' dx0 dx1 dx2
        generalize Lib.itoa x.b = nm at *
        go_wp2_with (first | (at_builtin; refine wpList_append_any _ rfl (.tmp 24) (.tmp 27) 39 rfl 9 i0 (.string ⟨#[]⟩) 1 16 Tryd.underlying39 hi hz0 hz1 hz2 rfl (by decide) _ N0 S0 rfl (hown.alloc _) [] _ 1 [.string ⟨nm.toArray⟩] rfl (src_new w4 _ [] #[.string ⟨nm.toArray⟩] _ 1 1 (Tch.refl [] _) (by simp)) rfl (one_str nm) hbnd ?_; intro ao cap w5 hown5 hgrow hat) | fail)
        have ht5 : Tch [] W w5 := (ht4.alloc _).grew hgrow hv4.2
        have hv5 := HT.out _ _ (NewRow.of (w := W) hv4.2 (by simp; omega) hown5 hat)
        clear HT hown5 hgrow hat hown
        go_roundw
        case rel => exact ⟨k + 1, _, by omega, rfl, by go_num, hv5, ht5⟩
        case measure => simp [intOf]; omega
    · have hke : (opsL x).take k = opsL x := List.take_of_length_le (by omega)
      rw [hke] at hv1
      have hkd : decide ((k : Int) < ((opsL x).length : Int)) = false := decide_eq_false (by omega)
      clear hke
      have hvs := NewRow.src hv1 [] (by simp)
      obtain ⟨a9, c9, rfl⟩ := Src.form hvs
      have hln : (opsL x).length.succ = ((32 :: 32 :: nmAt x.op) :: opsL x).length := rfl
      rw [hln] at hvs
      have hL := pr_line B b s wr [] a9 c9 ((32 :: 32 :: nmAt x.op) :: opsL x) (bcells_tch h (tW.then ht)) (Nat.le_trans hBw (tW.then ht).size) hvs (by have := opnd_cases x.op; simp only [List.length_cons]; omega) (by omega) (by omega)
      rw [hpj] at hL
      go_wp2_with fail
      refine hL.mono ?_
      rintro e w9 ⟨rfl, h9, k9⟩
      go_wp2_with fail
      go_end0
      exact ⟨rfl, h9, (Kp.of_tch (tW.then ht) hBw).trans k9⟩
end Go.Proofs.YteebapopeaafhaaDoor
namespace Go.Tcn
open Go Go.RowKit
set_option linter.unusedVariables false
set_option linter.unusedSimpArgs false
theorem joinW_le (m : Nat) : ∀ ws : List Wd, (∀ w ∈ ws, w.length ≤ m) → (joinW ws).length ≤ (m + 1) * ws.length
  | [], _ => by simp [joinW]
  | [w], h => by
    have := h w (by simp)
    simp [joinW]; omega
  | w :: v :: l, h => by
    have h1 := h w (by simp)
    have h2 := joinW_le m (v :: l) (fun x hx => h x (List.mem_cons_of_mem _ hx))
    have e : joinW (w :: v :: l) = w ++ 32 :: joinW (v :: l) := rfl
    rw [e, List.length_append, List.length_cons]
    have e2 : (m + 1) * (w :: v :: l).length = (m + 1) * (v :: l).length + (m + 1) := by rw [List.length_cons, Nat.mul_succ]
    rw [e2]
    omega
theorem kindNm_le (k : Int) : (kindNm k).length ≤ 4 := by
  unfold kindNm
  repeat' split
  all_goals decide
theorem textOf_one (a : List Wd) (l : Wd) : textOf (a ++ [l]) = textOf a ++ l ++ [10] := by
  simp [textOf]
theorem two_le {a b : Wd} (h1 : a.length ≤ 32) (h2 : b.length ≤ 32) : ∀ x ∈ [a, b], x.length ≤ 32 := fun x hx => by
  simp only [List.mem_cons, List.not_mem_nil, or_false] at hx
  rcases hx with rfl | rfl
  · exact h1
  · exact h2
theorem NewRow.lit {w0 w : World} (t : Tch [] w0 w) (E : TypeId) (ws : List Wd) (n : Nat) (hn : ws.length = n := by rfl) (hm : n ≤ maxLen := by decide) : NewRow w0 (w.alloc (.cells (strs ws).toArray E)) E 1 (.slice (some ⟨w.heap.size, 0, none⟩) n n) n (strs ws) :=
  ⟨World.ownsRow_lit w (strs ws).toArray n (Nat.zero_le _) hm (by simp [hn]), fun k hk => by simp [Value.ownBlock] at hk; have := t.size; omega⟩
theorem insP_I6 {x : Ins} (h : insB x = true) : I6 x.a ∧ I6 x.b := by
  unfold insB rightI at h
  obtain ⟨h1, h2, h3, h4, h5⟩ := of_decide_eq_true h
  have l := lim_any x.op
  exact ⟨⟨by omega, by omega⟩, by unfold I6; split at h5 <;> omega⟩
/-- The line of a method's locals. -/
def locLs (m : Mth) : List Wd := if m.locals = [] then [] else [joinW (kLocals :: m.locals.map kindNm)]
theorem locLs_no {m : Mth} (h : m.locals = []) : locLs m = [] := by unfold locLs; rw [if_pos h]
theorem locLs_yes {m : Mth} (h : m.locals ≠ []) : locLs m = [joinW (kLocals :: m.locals.map kindNm)] := by unfold locLs; rw [if_neg h]
theorem mthLs_loc (m : Mth) : mthLs m = [joinW (kMethod :: kindNm m.result :: m.params.map kindNm)] ++ (locLs m ++ m.code.map fun x => padW (joinW (insWs x))) := rfl
/-- What a print hands back. -/
def prRes (i : Img) : Value := if imgB i = true then .tuple #[.string ⟨(printW i).toArray⟩, .int .i64 0] else .tuple #[.string ⟨#[]⟩, .int .i64 1]
theorem prRes_no {i : Img} (h : imgB i = false) : prRes i = .tuple #[.string ⟨#[]⟩, .int .i64 1] := by unfold prRes; rw [if_neg (by simp [h])]
theorem prRes_yes {i : Img} (h : imgB i = true) : prRes i = .tuple #[.string ⟨(printW i).toArray⟩, .int .i64 0] := by unfold prRes; rw [if_pos h]
/-- The printer's state: the text so far in the builder; the image's box. -/
structure PrSt (T U I : TypeId) (w wz : World) (q b : Nat) (cs : Array Value) (s : Wd) : Prop where
  bd : Lib.IsBuilderF T U w.heap.size b (Lib.byteCells s) wz
  t : Tch [] w wz
  box : wz.heap[q]? = some (.cells cs I (0, 0))
  ne : q ≠ b
  len : s.length ≤ 1000000
theorem PrSt.tch {T U I : TypeId} {w wz wy : World} {q b : Nat} {cs : Array Value} {s : Wd} (h : PrSt T U I w wz q b cs s) (t : Tch [] wz wy) : PrSt T U I w wy q b cs s :=
  ⟨bcells_tch h.bd t, h.t.then t, (t.block q (heap_lt h.box) (by simp)).trans h.box, h.ne, h.len⟩
theorem Kp.block {U : TypeId} {B b : Nat} {w w' : World} (k : Kp U B b w w') {q : Nat} {cs : Array Value} {I : TypeId} (h : w.heap[q]? = some (.cells cs I (0, 0))) (hn : q ≠ b) (hI : I ≠ U) : w'.heap[q]? = some (.cells cs I (0, 0)) :=
  k.kept q _ h (by simpa using hn) (fun c fz e => hI (by simp at e; exact e.2.1))
theorem PrSt.line {T U I : TypeId} {w wz wy : World} {q b : Nat} {cs : Array Value} {s s' : Wd} (h : PrSt T U I w wz q b cs s) (hI : I ≠ U) (k : Kp U w.heap.size b wz wy) (hb : Lib.IsBuilderF T U w.heap.size b (Lib.byteCells s') wy) (hl : s'.length ≤ 1000000) : PrSt T U I w wy q b cs s' :=
  ⟨hb, k.tch h.t (Nat.le_refl _), k.block h.box h.ne hI, h.ne, hl⟩
end Go.Tcn
namespace Go.Proofs.YteebapopeaafhaaDoor
open Go.RowKit Go.Tcn
set_option linter.unusedVariables false
set_option linter.unusedSimpArgs false
set_option maxRecDepth 100000 in
set_option maxHeartbeats 4000000 in
/-- A line, from a printer's state to the next. -/
theorem pr_step (w wz : World) (q b : Nat) (cs : Array Value) (s : Wd) (L : List Nat) (a0 : Option Addr) (c0 : Nat) (ws : List Wd) (h : PrSt 64 5 29 w wz q b cs s)
    (hs : Src wz L (.slice a0 ws.length c0) ws.length (strs ws)) (hl : ws.length ≤ 20) (hw : ∀ x ∈ ws, x.length ≤ 32) (hlen : s.length ≤ 900000) :
    Calls Tryd.prog 25 #[.pointer (some ⟨b, 0, none⟩), .slice a0 ws.length c0] wz fun e wy => e = .returned (.tuple #[]) ∧ PrSt 64 5 29 w wy q b cs (s ++ joinW ws ++ [10]) ∧ (s ++ joinW ws ++ [10]).length ≤ s.length + 700 ∧ Kp 5 w.heap.size b wz wy := by
  have hj := joinW_le 32 ws hw
  refine (pr_line w.heap.size b s wz L a0 c0 ws h.bd h.t.size hs (by omega) (by omega) (by omega)).mono ?_
  rintro e wy ⟨rfl, h1, k⟩
  have hl2 : (s ++ joinW ws ++ [10]).length ≤ s.length + 700 := by simp; omega
  exact ⟨rfl, h.line (by decide) k h1 (by omega), hl2, k⟩
/-- An instruction's line, from a printer's state to the next. -/
theorem pr_istep (w wz : World) (q b : Nat) (cs : Array Value) (s : Wd) (x : Ins) (hx : insB x = true) (h : PrSt 64 5 29 w wz q b cs s) (hI : ItoC Tryd.prog 27 wz) (hlen : s.length ≤ 900000) :
    Calls Tryd.prog 28 #[.pointer (some ⟨b, 0, none⟩), .agg #[.int .i64 x.op, .int .i64 x.a, .int .i64 x.b]] wz fun e wy => e = .returned (.tuple #[]) ∧ PrSt 64 5 29 w wy q b cs (s ++ padW (joinW (insWs x)) ++ [10]) ∧ (s ++ padW (joinW (insWs x)) ++ [10]).length ≤ s.length + 700 := by
  obtain ⟨ha, hb⟩ := insP_I6 hx
  have hil := ins_len x ha hb
  rw [pad_join] at hil
  refine (pr_instr w.heap.size b s wz x ha hb h.bd h.t.size hI (by omega)).mono ?_
  rintro e wy ⟨rfl, h1, k⟩
  have hl2 : (s ++ padW (joinW (insWs x)) ++ [10]).length ≤ s.length + 700 := by simp; omega
  exact ⟨rfl, h.line (by decide) k h1 (by omega), hl2⟩
end Go.Proofs.YteebapopeaafhaaDoor
