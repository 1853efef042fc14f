/-
  CONTRACTS: image.IsName: which names may be. Conditions: utf8's tables as they are laid.
-/
import Derived.Test.YtapephelfijcbaaDoorImk
import Derived.Laws.RangeAny
import Derived.Lib.ValidU
import Derived.Lib.OthersKept
namespace Go.Tcn
open Go.RowKit
set_option linter.unusedVariables false
set_option linter.unusedSimpArgs false
/-- Are all runes from here on a name's? -/
def nameR (s : ByteArray) : Nat → Nat → Bool
  | 0, _ => true
  | f + 1, pos => if pos < s.size then runeB (Utf8.decode s pos).1 && nameR s f (pos + (Utf8.decode s pos).2) else true
def nameB (l : List UInt8) : Bool := decide (1 ≤ l.length ∧ l.length ≤ 16) && Lib.validD l && nameR ⟨l.toArray⟩ (l.length + 1) 0
end Go.Tcn
namespace Go.Proofs.YtapephelfijcbaaDoor
open Go.RowKit Go.Tcn
set_option linter.unusedVariables false
set_option linter.unusedSimpArgs false
set_option maxRecDepth 100000 in
set_option maxHeartbeats 4000000 in
theorem im_IsName (w : World) (l : List UInt8) (hV : l.length ≤ 16 → ∀ w', Tch [] w w' → Calls Tryd.prog 40 #[.string ⟨l.toArray⟩] w' fun e w'' => e = .returned (.bool (Lib.validD l)) ∧ Tch [] w' w'') :
    Calls Tryd.prog 12 #[.string ⟨l.toArray⟩] w fun e w' => e = .returned (.bool (nameB l)) ∧ Tch [] w w' := by
  by_cases h0 : l = []
  · subst h0
    go_enter Tryd.func12, Tryd.ntmps12
    go_wp2_with fail
    go_ret
    exact ⟨rfl, Tch.refl _ _⟩
  · have hb0 : (l == []) = false := by simp [h0]
    have hsz : (⟨l.toArray⟩ : ByteArray).size = l.length := by simp [ByteArray.size]
    by_cases h16 : l.length ≤ 16
    · go_enter Tryd.func12, Tryd.ntmps12
      go_wp2_with fail
      refine (hV h16 w (Tch.refl _ _)).mono ?_
      rintro e w1 ⟨rfl, t1⟩
      have hd : decide ((16 : Int) < (l.length : Int)) = false := decide_eq_false (by omega)
      have h1 : 1 ≤ l.length := by cases l with
        | nil => exact absurd rfl h0
        | cons x l => simp
      have hnb : nameB l = (Lib.validD l && nameR ⟨l.toArray⟩ (l.length + 1) 0) := by unfold nameB; simp [h1, h16]
      cases hv : Lib.validD l
      · rw [hv] at hnb
        have HN := Lib.hid hnb; clear hnb
        go_wp2_with fail
        go_ret
        exact ⟨by rw [HN.out]; rfl, t1⟩
      · rw [hv] at hnb
        have HN := Lib.hid hnb; clear hnb
        obtain ⟨S, hS⟩ : ∃ S : ByteArray, S = ⟨l.toArray⟩ := ⟨_, rfl⟩
        rw [← hS] at hsz
        go_wp2_with fail
        go_loopw [4] (fun r wz => ∃ (pos fuel : Nat), wz.heap[w1.heap.size]? = some (.stringIter ⟨l.toArray⟩ pos) ∧ l.length < pos + fuel ∧ nameR ⟨l.toArray⟩ (l.length + 1) 0 = nameR ⟨l.toArray⟩ fuel pos ∧ Tch [] w wz) (fun _ wz => l.length + 1 - wz.iterPos w1.heap.size)
        case atStart => exact ⟨0, l.length + 1, World.iter_heap w1 _ 0, by omega, rfl, t1.alloc _⟩
        case round =>
          obtain ⟨pos, fuel, hit, hfu, hnr, ht⟩ := hrel
          have hpos0 : wr.iterPos w1.heap.size = pos := by simp [World.iterPos, hit]
          by_cases hp : pos < (⟨l.toArray⟩ : ByteArray).size
          · have hnx : ∀ ty, (Instr.next (.pointer (some ⟨w1.heap.size, 0, none⟩)) true ty).run Tryd.prog wr = _ := fun ty => Lib.run_next_any_at wr w1.heap.size ⟨l.toArray⟩ pos ty hit hp
            have hlp : pos < l.length := by simpa [ByteArray.size] using hp
            obtain ⟨f, rfl⟩ : ∃ f, fuel = f + 1 := ⟨fuel - 1, by omega⟩
            have hnr' : nameR ⟨l.toArray⟩ (f + 1) pos = (runeB (Utf8.decode ⟨l.toArray⟩ pos).1 && nameR ⟨l.toArray⟩ f (pos + (Utf8.decode ⟨l.toArray⟩ pos).2)) := by
              show (if pos < (⟨l.toArray⟩ : ByteArray).size then _ else _) = _
              rw [if_pos hp]
            have hwd : 1 ≤ (Utf8.decode ⟨l.toArray⟩ pos).2 := by
              by_cases ha : 128 ≤ ((⟨l.toArray⟩ : ByteArray)[pos]'hp).toNat
              · exact (decode_high _ _ hp ha).2
              · rw [decode_ascii _ _ hp (by omega)]
                exact Nat.le_refl 1
            have hit2 := Lib.iterAt_heap wr w1.heap.size ⟨l.toArray⟩ pos (pos + (Utf8.decode ⟨l.toArray⟩ pos).2) hit
            have hb := Lib.below_iterAt ht.below (k := w1.heap.size) t1.size ⟨l.toArray⟩ (pos + (Utf8.decode ⟨l.toArray⟩ pos).2)
            have ht2 := Tch.of_below hb []
            rw [hnr'] at hnr
            have HR := Lib.hid hnr; clear hnr hnr'
            generalize Utf8.decode ⟨l.toArray⟩ pos = dd at *
            obtain ⟨W2, hW2⟩ : ∃ W2, W2 = wr.iterAt w1.heap.size ⟨l.toArray⟩ (pos + dd.2) := ⟨_, rfl⟩
            rw [← hW2] at hnx hit2 ht2
            clear hb hW2
            go_wp2_with fail
            refine (im_isRune _ _).mono ?_
            rintro e w3 ⟨rfl, rfl⟩
            have hpos2 : W2.iterPos w1.heap.size = pos + dd.2 := by simp [World.iterPos, hit2]
            cases hru : runeB dd.1
            · go_wp2_with fail
              go_ret
              exact ⟨by rw [HN.out, HR.out, hru]; rfl, ht2⟩
            · go_wp2_with fail
              go_roundw
              case rel => exact ⟨pos + dd.2, f, hit2, by omega, by rw [HR.out, hru]; rfl, ht2⟩
              case measure => rw [hpos0, hpos2]; omega
          · have hnx : ∀ ty, (Instr.next (.pointer (some ⟨w1.heap.size, 0, none⟩)) true ty).run Tryd.prog wr = _ := fun ty => Lib.run_next_end_at wr w1.heap.size ⟨l.toArray⟩ pos ty hit hp
            have hnt : nameR ⟨l.toArray⟩ fuel pos = true := by
              cases fuel with
              | zero => rfl
              | succ f => show (if pos < (⟨l.toArray⟩ : ByteArray).size then _ else _) = _; rw [if_neg hp]
            rw [hnt] at hnr
            have HR := Lib.hid hnr; clear hnr hnt
            go_wp2_with fail
            go_ret
            exact ⟨by rw [HN.out, HR.out]; rfl, ht⟩
    · have hn : nameB l = false := by unfold nameB; simp; omega
      have hd : decide ((16 : Int) < (l.length : Int)) = true := decide_eq_true (by omega)
      go_enter Tryd.func12, Tryd.ntmps12
      go_wp2_with fail
      go_ret
      exact ⟨by rw [hn]; rfl, Tch.refl _ _⟩
set_option maxRecDepth 100000 in
set_option maxHeartbeats 4000000 in
theorem ref_IsName (w : World) (l : List UInt8) (hV : l.length ≤ 16 → ∀ w', Tch [] w w' → Calls Tryd.prog 40 #[.string ⟨l.toArray⟩] w' fun e w'' => e = .returned (.bool (Lib.validD l)) ∧ Tch [] w' w'') :
    Calls Tryd.prog 19 #[.string ⟨l.toArray⟩] w fun e w' => e = .returned (.bool (nameB l)) ∧ Tch [] w w' := by
  by_cases h0 : l = []
  · subst h0
    go_enter Tryd.func19, Tryd.ntmps19
    go_wp2_with fail
    go_ret
    exact ⟨rfl, Tch.refl _ _⟩
  · have hl1 : 1 ≤ l.length := by
      cases l with
      | nil => exact absurd rfl h0
      | cons x l => simp
    have hd1 : decide ((l.length : Int) < 1) = false := decide_eq_false (by omega)
    have hsz : (⟨l.toArray⟩ : ByteArray).size = l.length := by simp [ByteArray.size]
    by_cases h16 : l.length ≤ 16
    · go_enter Tryd.func19, Tryd.ntmps19
      go_wp2_with fail
      refine (hV h16 w (Tch.refl _ _)).mono ?_
      rintro e w1 ⟨rfl, t1⟩
      have hd : decide ((16 : Int) < (l.length : Int)) = false := decide_eq_false (by omega)
      have h1 : 1 ≤ l.length := by cases l with
        | nil => exact absurd rfl h0
        | cons x l => simp
      have hnb : nameB l = (Lib.validD l && nameR ⟨l.toArray⟩ (l.length + 1) 0) := by unfold nameB; simp [h1, h16]
      cases hv : Lib.validD l
      · rw [hv] at hnb
        have HN := Lib.hid hnb; clear hnb
        go_wp2_with fail
        go_ret
        exact ⟨by rw [HN.out]; rfl, t1⟩
      · rw [hv] at hnb
        have HN := Lib.hid hnb; clear hnb
        obtain ⟨S, hS⟩ : ∃ S : ByteArray, S = ⟨l.toArray⟩ := ⟨_, rfl⟩
        rw [← hS] at hsz
        go_wp2_with fail
        go_loopw [4] (fun r wz => ∃ (pos fuel : Nat), wz.heap[w1.heap.size]? = some (.stringIter ⟨l.toArray⟩ pos) ∧ l.length < pos + fuel ∧ nameR ⟨l.toArray⟩ (l.length + 1) 0 = nameR ⟨l.toArray⟩ fuel pos ∧ Tch [] w wz) (fun _ wz => l.length + 1 - wz.iterPos w1.heap.size)
        case atStart => exact ⟨0, l.length + 1, World.iter_heap w1 _ 0, by omega, rfl, t1.alloc _⟩
        case round =>
          obtain ⟨pos, fuel, hit, hfu, hnr, ht⟩ := hrel
          have hpos0 : wr.iterPos w1.heap.size = pos := by simp [World.iterPos, hit]
          by_cases hp : pos < (⟨l.toArray⟩ : ByteArray).size
          · have hnx : ∀ ty, (Instr.next (.pointer (some ⟨w1.heap.size, 0, none⟩)) true ty).run Tryd.prog wr = _ := fun ty => Lib.run_next_any_at wr w1.heap.size ⟨l.toArray⟩ pos ty hit hp
            have hlp : pos < l.length := by simpa [ByteArray.size] using hp
            obtain ⟨f, rfl⟩ : ∃ f, fuel = f + 1 := ⟨fuel - 1, by omega⟩
            have hnr' : nameR ⟨l.toArray⟩ (f + 1) pos = (runeB (Utf8.decode ⟨l.toArray⟩ pos).1 && nameR ⟨l.toArray⟩ f (pos + (Utf8.decode ⟨l.toArray⟩ pos).2)) := by
              show (if pos < (⟨l.toArray⟩ : ByteArray).size then _ else _) = _
              rw [if_pos hp]
            have hwd : 1 ≤ (Utf8.decode ⟨l.toArray⟩ pos).2 := by
              by_cases ha : 128 ≤ ((⟨l.toArray⟩ : ByteArray)[pos]'hp).toNat
              · exact (decode_high _ _ hp ha).2
              · rw [decode_ascii _ _ hp (by omega)]
                exact Nat.le_refl 1
            have hit2 := Lib.iterAt_heap wr w1.heap.size ⟨l.toArray⟩ pos (pos + (Utf8.decode ⟨l.toArray⟩ pos).2) hit
            have hb := Lib.below_iterAt ht.below (k := w1.heap.size) t1.size ⟨l.toArray⟩ (pos + (Utf8.decode ⟨l.toArray⟩ pos).2)
            have ht2 := Tch.of_below hb []
            rw [hnr'] at hnr
            have HR := Lib.hid hnr; clear hnr hnr'
            generalize Utf8.decode ⟨l.toArray⟩ pos = dd at *
            obtain ⟨W2, hW2⟩ : ∃ W2, W2 = wr.iterAt w1.heap.size ⟨l.toArray⟩ (pos + dd.2) := ⟨_, rfl⟩
            rw [← hW2] at hnx hit2 ht2
            clear hb hW2
            have hpos2 : W2.iterPos w1.heap.size = pos + dd.2 := by simp [World.iterPos, hit2]
            generalize hdi : ((dd.1 : Nat) : Int) = di at *
            clear hdi
            go_wp2
            all_goals first
              | (have hru : runeB di = false := by first | (unfold runeB; simp; omega) | (simp only [Bool.not_eq_true', Bool.not_eq_false', decide_eq_true_eq, decide_eq_false_iff_not, beq_iff_eq, beq_eq_false_iff_ne] at *; unfold runeB; simp; omega)
                 go_ret
                 exact ⟨by rw [HN.out, HR.out, hru]; rfl, ht2⟩)
              | (have hru : runeB di = true := by first | (unfold runeB; simp; omega) | (simp only [Bool.not_eq_true', Bool.not_eq_false', decide_eq_true_eq, decide_eq_false_iff_not, beq_iff_eq, beq_eq_false_iff_ne] at *; unfold runeB; simp; omega)
                 go_roundw
                 · exact ⟨pos + dd.2, f, hit2, by omega, by rw [HR.out, hru]; rfl, ht2⟩
                 · rw [hpos0, hpos2]; omega)
              | (go_roundw
                 · exact ⟨pos + dd.2, f, hit2, by omega, by rw [HR.out]; rfl, ht2⟩
                 · rw [hpos0, hpos2]; omega)
          · have hnx : ∀ ty, (Instr.next (.pointer (some ⟨w1.heap.size, 0, none⟩)) true ty).run Tryd.prog wr = _ := fun ty => Lib.run_next_end_at wr w1.heap.size ⟨l.toArray⟩ pos ty hit hp
            have hnt : nameR ⟨l.toArray⟩ fuel pos = true := by
              cases fuel with
              | zero => rfl
              | succ f => show (if pos < (⟨l.toArray⟩ : ByteArray).size then _ else _) = _; rw [if_neg hp]
            rw [hnt] at hnr
            have HR := Lib.hid hnr; clear hnr hnt
            go_wp2_with fail
            go_ret
            exact ⟨by rw [HN.out, HR.out]; rfl, ht⟩
    · have hn : nameB l = false := by unfold nameB; simp; omega
      have hd : decide ((16 : Int) < (l.length : Int)) = true := decide_eq_true (by omega)
      go_enter Tryd.func19, Tryd.ntmps19
      go_wp2_with fail
      go_ret
      exact ⟨by rw [hn]; rfl, Tch.refl _ _⟩
end Go.Proofs.YtapephelfijcbaaDoor
