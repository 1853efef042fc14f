/-
  STATEMENT: ImageNames: which names may be, rune by rune: the walk. Conditions: utf8's tables as they are laid.
-/
import Derived.Test.YtapephelfijcbaaDoorImy
import Derived.Laws.Cover4
namespace Go.Proofs.YtapephelfijcbaaDoor
open Go.RowKit Go.Tcn
set_option linter.unusedVariables false
set_option linter.unusedSimpArgs false
theorem runes_at (b : Int) : ∃ v, ∀ w, (Instr.index 45 (.agg #[.int .i32 97, .int .i32 122, .int .i32 48, .int .i32 57, .int .i32 45, .int .i32 46, .int .i32 224, .int .i32 255, .int .i32 65, .int .i32 223, .int .i32 256, .int .i32 95]) (.int .i64 (b % 12))).run Tryd.prog w = .ok (.int .i32 v) w := by
  have h : b % 12 = 0 ∨ b % 12 = 1 ∨ b % 12 = 2 ∨ b % 12 = 3 ∨ b % 12 = 4 ∨ b % 12 = 5 ∨ b % 12 = 6 ∨ b % 12 = 7 ∨ b % 12 = 8 ∨ b % 12 = 9 ∨ b % 12 = 10 ∨ b % 12 = 11 := by omega
  rcases h with h | h | h | h | h | h | h | h | h | h | h | h
  all_goals rw [h]
  · exact ⟨97, fun _ => by kernel_rfl⟩
  · exact ⟨122, fun _ => by kernel_rfl⟩
  · exact ⟨48, fun _ => by kernel_rfl⟩
  · exact ⟨57, fun _ => by kernel_rfl⟩
  · exact ⟨45, fun _ => by kernel_rfl⟩
  · exact ⟨46, fun _ => by kernel_rfl⟩
  · exact ⟨224, fun _ => by kernel_rfl⟩
  · exact ⟨255, fun _ => by kernel_rfl⟩
  · exact ⟨65, fun _ => by kernel_rfl⟩
  · exact ⟨223, fun _ => by kernel_rfl⟩
  · exact ⟨256, fun _ => by kernel_rfl⟩
  · exact ⟨95, fun _ => by kernel_rfl⟩
theorem runes_one (v : Int) : (runesBytes [v]).size ≤ 4 := by
  have h := encode_size_le v
  show (ByteArray.empty ++ Utf8.encode v).size ≤ 4
  rw [ByteArray.size_append]
  have h0 : ByteArray.empty.size = 0 := rfl
  omega
theorem runes_len (v : Int) : (runesBytes [v]).data.toList.length ≤ 4 := by
  have h := runes_one v
  rw [Array.length_toList]
  exact h
theorem strcat_eq (a : List UInt8) (b : ByteArray) : (⟨a.toArray⟩ : ByteArray) ++ b = ⟨(a ++ b.data.toList).toArray⟩ := by
  apply ByteArray.ext
  simp
theorem rune_conv (w : World) (v : Int) : (convert 46 9 (.slice (some ⟨w.heap.size, 0, none⟩) 1 1)).run Tryd.prog (w.alloc (.cells #[.int .i32 v] 21)) = .ok (.string (runesBytes [v])) (w.alloc (.cells #[.int .i32 v] 21)) := by
  have h := run_convert_runes (P := Tryd.prog) (w.alloc (.cells #[.int .i32 v] 21)) 46 9 21 ⟨w.heap.size, 0, none⟩ 1 1 [v] (by simp) Tryd.underlying46 Tryd.underlying21 Tryd.underlying9 (fun j hj => by
    simp at hj
    subst hj
    exact new_cells w #[.int .i32 v] 21 0 _ rfl)
  exact h
set_option maxRecDepth 100000 in
set_option maxHeartbeats 8000000 in
theorem law4_ImageNames (w : World) (s0 : List UInt8) (v : Value) (l : List Int) (h : RInts w [] v l) (hI : ∀ x ∈ l, I6 x) (hm : l.length ≤ 9223372036854775807) (near : Bool) (hV : ∀ nm w', nm.length ≤ 16 → Tch [] w w' → Calls Tryd.prog 40 #[.string ⟨nm.toArray⟩] w' fun e w'' => e = .returned (.bool (Lib.validD nm)) ∧ Tch [] w' w'') :
    Calls Tryd.prog 6 #[.string ⟨s0.toArray⟩, v, .bool near] w fun e w' => e = .returned (.bool true) ∧ Tch [] w w' := by
  obtain ⟨a0, c0, rfl⟩ := Src.form h
  have hfin : ∀ (W : World) (ba : List UInt8), Tch [] w W → Calls Tryd.prog 12 #[.string ⟨ba.toArray⟩] W fun e w' => e = .returned (.bool (nameB ba)) ∧ Tch [] W w' := fun W ba t => im_IsName W ba (fun h16 w' t' => hV ba w' h16 (t.then t'))
  have hfin2 : ∀ (W : World) (ba : List UInt8), Tch [] w W → Calls Tryd.prog 19 #[.string ⟨ba.toArray⟩] W fun e w' => e = .returned (.bool (nameB ba)) ∧ Tch [] W w' := fun W ba t => ref_IsName W ba (fun h16 w' t' => hV ba w' h16 (t.then t'))
  have hkn : ∀ (W : World), Tch [] w W → Calls Tryd.prog 11 #[] W fun e w' => e = .returned (.bool true) ∧ Tch [] W w' := fun W t => law4_known W (fun nm w' h16 t' => hV nm w' h16 (t.then t'))
  clear hV
  cases near
  · go_enter Tryd.func6, Tryd.ntmps6
    go_wp2_with fail
    refine (hkn w (Tch.refl _ _)).mono ?_
    rintro e w1 ⟨rfl, t1⟩
    go_wp2_with fail
    refine (hfin w1 s0 t1).mono ?_
    rintro e w2 ⟨rfl, t2⟩
    go_wp2_with fail
    refine (hfin2 w2 s0 (t1.then t2)).mono ?_
    rintro e w3 ⟨rfl, t3⟩
    cases hb : nameB s0
    · go_wp2_with fail
      go_ret
      exact ⟨rfl, (t1.then t2).then t3⟩
    · go_wp2_with fail
      go_ret
      exact ⟨rfl, (t1.then t2).then t3⟩
  · go_enter Tryd.func6, Tryd.ntmps6
    go_wp2_with fail
    go_loopw [0, 7] (fun s i wz => ∃ (k : Nat) (ba : List UInt8), k ≤ l.length ∧ ba.length ≤ 4 * k ∧ k ≤ 18 ∧ s = .string ⟨ba.toArray⟩ ∧ i = .int .i64 k ∧ Tch [] w wz) (fun _ i _ => l.length - (intOf i).toNat)
    case atStart => exact ⟨0, [], by omega, by simp, by omega, rfl, rfl, Tch.refl _ _⟩
    case round =>
      obtain ⟨k, ba, hk1, hbl, hk18, rfl, rfl, ht⟩ := hrel
      by_cases hg : k < l.length ∧ k < 18
      · obtain ⟨hk, h18⟩ := hg
        obtain ⟨ad, rfl, _, _, hq⟩ := Src.at (h.tch ht (by simp)) (j := k) (by simpa using hk)
        have hq0 : wr.cell? (ad.add k) = some (.int .i64 l[k]) := by simpa [ints] using hq
        have hx := hI l[k] (List.getElem_mem hk)
        clear hq
        generalize l[k] = x at *
        have h18' : (k : Int) < 18 := by omega
        obtain ⟨rv, hrv⟩ := runes_at x
        have hrs := runes_one rv
        have hrl := runes_len rv
        generalize hrb : runesBytes [rv] = rb at *
        have hsz2 : ¬ 9223372036854775807 < ba.length + rb.size := by omega
        have hPk := fun w => hand_Pick x 12 hx (by omega) (by omega) w
        have hcv := fun w => rune_conv w rv
        rw [hrb] at hcv
        clear hrb
        go_wp2_with fail
        refine (hPk _).mono ?_
        rintro e w1 ⟨rfl, rfl⟩
        go_wp2_with fail
        go_roundw
        case rel => exact ⟨k + 1, ba ++ rb.data.toList, by omega, by simp; omega, by omega, by simp [strcat_eq], by go_num, ht.alloc _⟩
        case measure => simp [intOf]; omega
      · have hcs : ¬ k < l.length ∨ (k < l.length ∧ ¬ (k : Int) < 18 ∧ ¬ k < 18) := by omega
        rcases hcs with d1 | ⟨d1, d2, d3⟩
        · go_wp2_with fail
          refine (hkn wr ht).mono ?_
          rintro e w1 ⟨rfl, t1⟩
          go_wp2_with fail
          refine (hfin w1 ba (ht.then t1)).mono ?_
          rintro e w2 ⟨rfl, t2⟩
          go_wp2_with fail
          refine (hfin2 w2 ba ((ht.then t1).then t2)).mono ?_
          rintro e w3 ⟨rfl, t3⟩
          cases hb : nameB ba
          · go_wp2_with fail
            go_ret
            exact ⟨rfl, ((ht.then t1).then t2).then t3⟩
          · go_wp2_with fail
            go_ret
            exact ⟨rfl, ((ht.then t1).then t2).then t3⟩
        · go_wp2_with fail
          refine (hkn wr ht).mono ?_
          rintro e w1 ⟨rfl, t1⟩
          go_wp2_with fail
          refine (hfin w1 ba (ht.then t1)).mono ?_
          rintro e w2 ⟨rfl, t2⟩
          go_wp2_with fail
          refine (hfin2 w2 ba ((ht.then t1).then t2)).mono ?_
          rintro e w3 ⟨rfl, t3⟩
          cases hb : nameB ba
          · go_wp2_with fail
            go_ret
            exact ⟨rfl, ((ht.then t1).then t2).then t3⟩
          · go_wp2_with fail
            go_ret
            exact ⟨rfl, ((ht.then t1).then t2).then t3⟩
end Go.Proofs.YtapephelfijcbaaDoor
