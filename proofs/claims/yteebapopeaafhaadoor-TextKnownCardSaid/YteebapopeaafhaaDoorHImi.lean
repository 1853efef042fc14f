/-
  CONTRACTS: image: which kinds and results may be, and lists of them. Conditions: none.
  CONTRACTS: image.IsName: which names may be. Conditions: utf8's tables as they are laid.
  CONTRACTS: image.isImport. Conditions: utf8's tables as they are laid.
-/
import Derived.Test.YteebapopeaafhaaDoorHCodeP
import Derived.Test.YteebapopeaafhaaDoorHHand
import Derived.Laws.RangeAny
import Derived.Lib.ValidU
import Derived.Lib.OthersKept
namespace Go.Tcn
open Go.RowKit
set_option linter.unusedVariables false
set_option linter.unusedSimpArgs false
def kindB (k : Int) : Bool := decide (1 ≤ k ∧ k ≤ 4)
def resB (k : Int) : Bool := decide (0 ≤ k ∧ k ≤ 4)
/-- The first that is no kind. -/
def badFrom : List Int → Nat → Int
  | [], _ => -1
  | x :: l, k => if kindB x = false then (k : Int) else badFrom l (k + 1)
theorem badFrom_drop (l : List Int) (k : Nat) (hk : k < l.length) : badFrom (l.drop k) k = if kindB l[k] = false then (k : Int) else badFrom (l.drop (k + 1)) (k + 1) := by
  rw [List.drop_eq_getElem_cons hk]; rfl
theorem badFrom_all (l : List Int) (k : Nat) : decide (0 ≤ badFrom l k) = !l.all kindB := by
  induction l generalizing k with
  | nil => rfl
  | cons x l ih =>
    unfold badFrom
    cases h : kindB x
    · rw [if_pos rfl]; simp [h]
    · rw [if_neg (by simp), ih]; simp [h]
def kindsB (l : List Int) (most : Int) : Bool := decide ((l.length : Int) ≤ most) && l.all kindB
def runeB (r : Int) : Bool := decide (97 ≤ r ∧ r ≤ 122 ∨ 48 ≤ r ∧ r ≤ 57 ∨ r = 45 ∨ r = 46 ∨ 224 ≤ r ∧ r ≤ 255)
end Go.Tcn
namespace Go.Proofs.YteebapopeaafhaaDoor
open Go.RowKit Go.Tcn
set_option linter.unusedVariables false
set_option linter.unusedSimpArgs false
set_option maxHeartbeats 4000000 in
theorem im_isKind (w : World) (k : Int) : Calls Tryd.prog 70 #[.int .i64 k] w fun e w' => e = .returned (.bool (kindB k)) ∧ w = w' := by
  go_enter Tryd.func70, Tryd.ntmps70
  go_wp2
  all_goals
    go_ret
    refine ⟨?_, rfl⟩
    first | (simp_all [kindB]; done) | (simp_all [kindB]; omega) | (congr 2; simp_all [kindB]; omega)
set_option maxHeartbeats 4000000 in
theorem im_kone (w : World) (k : Int) : Calls Tryd.prog 69 #[.int .i64 k] w fun e w' => e = .returned (.bool (!kindB k)) ∧ w = w' := by
  go_enter Tryd.func69, Tryd.ntmps69
  go_wp2_with fail
  refine (im_isKind _ k).mono ?_
  rintro e w1 ⟨rfl, rfl⟩
  go_wp2_with fail
  go_ret
  exact ⟨rfl, rfl⟩
set_option maxRecDepth 100000 in
set_option maxHeartbeats 4000000 in
theorem im_idx (w : World) (v : Value) (l : List Int) (h : RInts w [] v l) (hm : l.length ≤ 9223372036854775807) :
    Calls Tryd.prog 94 #[v, .func (.func 69) #[] #[]] w fun e w' => e = .returned (.int .i64 (badFrom l 0)) ∧ w = w' := by
  obtain ⟨a0, c0, rfl⟩ := h.form
  go_enter Tryd.func94, Tryd.ntmps94
  go_wp2_with fail
  go_loopw [8] (fun i wz => ∃ k : Nat, k ≤ l.length ∧ i = .int .i64 k ∧ badFrom l 0 = badFrom (l.drop k) k ∧ w = wz) (fun i _ => l.length - (intOf i).toNat)
  case atStart => exact ⟨0, by omega, rfl, rfl, rfl⟩
  case round =>
    obtain ⟨k, hk1, rfl, hf, rfl⟩ := hrel
    by_cases hk : k < l.length
    · obtain ⟨ad, rfl, _, _, hq⟩ := Src.at h (j := k) (by simpa using hk)
      have hq0 : w.cell? (ad.add k) = some (.int .i64 l[k]) := by simpa [ints] using hq
      have hfd := badFrom_drop l k hk
      clear hq
      generalize l[k] = x at *
      rw [hfd] at hf
      have HF := Lib.hid hf; clear hf hfd
      go_wp2_with fail
      refine (im_kone _ x).mono ?_
      rintro e w1 ⟨rfl, rfl⟩
      cases hb : kindB x
      · go_wp2_with fail
        (first | go_ret | go_ret2 | go_end0)
        exact ⟨by rw [HF.out, if_pos hb]; rfl, rfl⟩
      · go_wp2_with fail
        go_roundw
        case rel => exact ⟨k + 1, by omega, by go_num, by rw [HF.out, if_neg (by simp [hb])], by first | rfl | trivial⟩
        case measure => simp [intOf]; omega
    · have hn : badFrom l 0 = -1 := by rw [hf, List.drop_eq_nil_of_le (by omega)]; rfl
      clear hf
      go_wp2_with fail
      (first | go_ret | go_ret2 | go_end0)
      exact ⟨by rw [hn]; rfl, rfl⟩
set_option maxRecDepth 100000 in
set_option maxHeartbeats 4000000 in
theorem im_con (w : World) (v : Value) (l : List Int) (h : RInts w [] v l) (hm : l.length ≤ 9223372036854775807) :
    Calls Tryd.prog 68 #[v, .func (.func 69) #[] #[]] w fun e w' => e = .returned (.bool (!l.all kindB)) ∧ w = w' := by
  go_enter Tryd.func68, Tryd.ntmps68
  go_wp2_with fail
  refine (im_idx _ v l h hm).mono ?_
  rintro e w1 ⟨rfl, rfl⟩
  have hd := badFrom_all l 0
  generalize badFrom l 0 = b at *
  have HD := Lib.hid hd; clear hd
  go_wp2_with fail
  go_ret
  exact ⟨by rw [← HD.out]; rfl, rfl⟩
set_option maxRecDepth 100000 in
set_option maxHeartbeats 4000000 in
theorem im_kinds (w : World) (v : Value) (l : List Int) (h : RInts w [] v l) (hm : l.length ≤ 9223372036854775807) (most : Int) :
    Calls Tryd.prog 39 #[v, .int .i64 most] w fun e w' => e = .returned (.bool (kindsB l most)) ∧ w = w' := by
  have hC := im_con w v l h hm
  obtain ⟨a0, c0, rfl⟩ := h.form
  unfold kindsB
  by_cases hl : (l.length : Int) ≤ most
  · have hd : decide ((l.length : Int) ≤ most) = true := decide_eq_true hl
    go_enter Tryd.func39, Tryd.ntmps39
    go_wp2_with fail
    refine hC.mono ?_
    rintro e w1 ⟨rfl, rfl⟩
    cases hb : l.all kindB
    · go_wp2_with fail
      go_ret
      exact ⟨by rw [hd, hb]; rfl, rfl⟩
    · go_wp2_with fail
      go_ret
      exact ⟨by rw [hd, hb]; rfl, rfl⟩
  · have hd : decide ((l.length : Int) ≤ most) = false := decide_eq_false hl
    go_enter Tryd.func39, Tryd.ntmps39
    go_wp2_with fail
    go_ret
    exact ⟨by simp [hl], rfl⟩
set_option maxHeartbeats 4000000 in
theorem im_isResult (w : World) (k : Int) : Calls Tryd.prog 73 #[.int .i64 k] w fun e w' => e = .returned (.bool (resB k)) ∧ w = w' := by
  have hk : resB k = (decide (k = 0) || kindB k) := by
    apply Bool.eq_iff_iff.2
    simp [resB, kindB]
    omega
  by_cases h0 : k = 0
  · subst h0
    go_enter Tryd.func73, Tryd.ntmps73
    go_wp2_with fail
    go_ret
    exact ⟨rfl, rfl⟩
  · have hb : (k == 0) = false := beq_eq_false_iff_ne.2 h0
    go_enter Tryd.func73, Tryd.ntmps73
    go_wp2_with fail
    refine (im_isKind _ k).mono ?_
    rintro e w1 ⟨rfl, rfl⟩
    have HK := Lib.hid hk; clear hk
    go_wp2_with fail
    go_ret
    exact ⟨by rw [HK.out]; simp [h0], rfl⟩
set_option maxRecDepth 100000 in
set_option maxHeartbeats 8000000 in
theorem im_isRune (w : World) (r : Int) : Calls Tryd.prog 67 #[.int .i32 r] w fun e w' => e = .returned (.bool (runeB r)) ∧ w = w' := by
  go_enter Tryd.func67, Tryd.ntmps67
  go_wp2
  all_goals
    go_ret
    refine ⟨?_, rfl⟩
    first
      | rfl
      | (show Ending.returned (Value.bool true) = _; rw [show runeB _ = true by unfold runeB; simp; omega])
      | (show Ending.returned (Value.bool false) = _; rw [show runeB _ = false by unfold runeB; simp; omega])
      | (show Ending.returned (Value.bool _) = Ending.returned (Value.bool (runeB r)); congr 2; apply Bool.eq_iff_iff.2; simp [runeB]; omega)
end Go.Proofs.YteebapopeaafhaaDoor
namespace Go.Tcn
open Go.RowKit
set_option linter.unusedVariables false
set_option linter.unusedSimpArgs false
/-- Are all runes from here on a name's? -/
def nameR (s : ByteArray) : Nat → Nat → Bool
  | 0, _ => true
  | f + 1, pos => if pos < s.size then runeB (Utf8.decode s pos).1 && nameR s f (pos + (Utf8.decode s pos).2) else true
def nameB (l : List UInt8) : Bool := decide (1 ≤ l.length ∧ l.length ≤ 16) && Lib.validD l && nameR ⟨l.toArray⟩ (l.length + 1) 0
end Go.Tcn
namespace Go.Proofs.YteebapopeaafhaaDoor
open Go.RowKit Go.Tcn
set_option linter.unusedVariables false
set_option linter.unusedSimpArgs false
set_option maxRecDepth 100000 in
set_option maxHeartbeats 4000000 in
theorem im_IsName (w : World) (l : List UInt8) (hV : l.length ≤ 16 → ∀ w', Tch [] w w' → Calls Tryd.prog 66 #[.string ⟨l.toArray⟩] w' fun e w'' => e = .returned (.bool (Lib.validD l)) ∧ Tch [] w' w'') :
    Calls Tryd.prog 38 #[.string ⟨l.toArray⟩] w fun e w' => e = .returned (.bool (nameB l)) ∧ Tch [] w w' := by
  by_cases h0 : l = []
  · subst h0
    go_enter Tryd.func38, Tryd.ntmps38
    go_wp2_with fail
    go_ret
    exact ⟨rfl, Tch.refl _ _⟩
  · have hb0 : (l == []) = false := by simp [h0]
    have hsz : (⟨l.toArray⟩ : ByteArray).size = l.length := by simp [ByteArray.size]
    by_cases h16 : l.length ≤ 16
    · go_enter Tryd.func38, Tryd.ntmps38
      go_wp2_with fail
      refine (hV h16 w (Tch.refl _ _)).mono ?_
      rintro e w1 ⟨rfl, t1⟩
      have hd : decide ((16 : Int) < (l.length : Int)) = false := decide_eq_false (by omega)
      have h1 : 1 ≤ l.length := by cases l with
        | nil => exact absurd rfl h0
        | cons x l => simp
      have hnb : nameB l = (Lib.validD l && nameR ⟨l.toArray⟩ (l.length + 1) 0) := by unfold nameB; simp [h1, h16]
      cases hv : Lib.validD l
      · rw [hv] at hnb
        have HN := Lib.hid hnb; clear hnb
        go_wp2_with fail
        go_ret
        exact ⟨by rw [HN.out]; rfl, t1⟩
      · rw [hv] at hnb
        have HN := Lib.hid hnb; clear hnb
        obtain ⟨S, hS⟩ : ∃ S : ByteArray, S = ⟨l.toArray⟩ := ⟨_, rfl⟩
        rw [← hS] at hsz
        go_wp2_with fail
        go_loopw [4] (fun r wz => ∃ (pos fuel : Nat), wz.heap[w1.heap.size]? = some (.stringIter ⟨l.toArray⟩ pos) ∧ l.length < pos + fuel ∧ nameR ⟨l.toArray⟩ (l.length + 1) 0 = nameR ⟨l.toArray⟩ fuel pos ∧ Tch [] w wz) (fun _ wz => l.length + 1 - wz.iterPos w1.heap.size)
        case atStart => exact ⟨0, l.length + 1, World.iter_heap w1 _ 0, by omega, rfl, t1.alloc _⟩
        case round =>
          obtain ⟨pos, fuel, hit, hfu, hnr, ht⟩ := hrel
          have hpos0 : wr.iterPos w1.heap.size = pos := by simp [World.iterPos, hit]
          by_cases hp : pos < (⟨l.toArray⟩ : ByteArray).size
          · have hnx : ∀ ty, (Instr.next (.pointer (some ⟨w1.heap.size, 0, none⟩)) true ty).run Tryd.prog wr = _ := fun ty => Lib.run_next_any_at wr w1.heap.size ⟨l.toArray⟩ pos ty hit hp
            have hlp : pos < l.length := by simpa [ByteArray.size] using hp
            obtain ⟨f, rfl⟩ : ∃ f, fuel = f + 1 := ⟨fuel - 1, by omega⟩
            have hnr' : nameR ⟨l.toArray⟩ (f + 1) pos = (runeB (Utf8.decode ⟨l.toArray⟩ pos).1 && nameR ⟨l.toArray⟩ f (pos + (Utf8.decode ⟨l.toArray⟩ pos).2)) := by
              show (if pos < (⟨l.toArray⟩ : ByteArray).size then _ else _) = _
              rw [if_pos hp]
            have hwd : 1 ≤ (Utf8.decode ⟨l.toArray⟩ pos).2 := by
              by_cases ha : 128 ≤ ((⟨l.toArray⟩ : ByteArray)[pos]'hp).toNat
              · exact (decode_high _ _ hp ha).2
              · rw [decode_ascii _ _ hp (by omega)]
                exact Nat.le_refl 1
            have hit2 := Lib.iterAt_heap wr w1.heap.size ⟨l.toArray⟩ pos (pos + (Utf8.decode ⟨l.toArray⟩ pos).2) hit
            have hb := Lib.below_iterAt ht.below (k := w1.heap.size) t1.size ⟨l.toArray⟩ (pos + (Utf8.decode ⟨l.toArray⟩ pos).2)
            have ht2 := Tch.of_below hb []
            rw [hnr'] at hnr
            have HR := Lib.hid hnr; clear hnr hnr'
            generalize Utf8.decode ⟨l.toArray⟩ pos = dd at *
            obtain ⟨W2, hW2⟩ : ∃ W2, W2 = wr.iterAt w1.heap.size ⟨l.toArray⟩ (pos + dd.2) := ⟨_, rfl⟩
            rw [← hW2] at hnx hit2 ht2
            clear hb hW2
            go_wp2_with fail
            refine (im_isRune _ _).mono ?_
            rintro e w3 ⟨rfl, rfl⟩
            have hpos2 : W2.iterPos w1.heap.size = pos + dd.2 := by simp [World.iterPos, hit2]
            cases hru : runeB dd.1
            · go_wp2_with fail
              go_ret
              exact ⟨by rw [HN.out, HR.out, hru]; rfl, ht2⟩
            · go_wp2_with fail
              go_roundw
              case rel => exact ⟨pos + dd.2, f, hit2, by omega, by rw [HR.out, hru]; rfl, ht2⟩
              case measure => rw [hpos0, hpos2]; omega
          · have hnx : ∀ ty, (Instr.next (.pointer (some ⟨w1.heap.size, 0, none⟩)) true ty).run Tryd.prog wr = _ := fun ty => Lib.run_next_end_at wr w1.heap.size ⟨l.toArray⟩ pos ty hit hp
            have hnt : nameR ⟨l.toArray⟩ fuel pos = true := by
              cases fuel with
              | zero => rfl
              | succ f => show (if pos < (⟨l.toArray⟩ : ByteArray).size then _ else _) = _; rw [if_neg hp]
            rw [hnt] at hnr
            have HR := Lib.hid hnr; clear hnr hnt
            go_wp2_with fail
            go_ret
            exact ⟨by rw [HN.out, HR.out]; rfl, ht⟩
    · have hn : nameB l = false := by unfold nameB; simp; omega
      have hd : decide ((16 : Int) < (l.length : Int)) = true := decide_eq_true (by omega)
      go_enter Tryd.func38, Tryd.ntmps38
      go_wp2_with fail
      go_ret
      exact ⟨by rw [hn]; rfl, Tch.refl _ _⟩
end Go.Proofs.YteebapopeaafhaaDoor
namespace Go.Tcn
set_option linter.unusedVariables false
set_option linter.unusedSimpArgs false
def impB (x : Imp) : Bool := nameB x.name && decide (0 ≤ x.exp ∧ x.exp < 4) && kindsB x.params 4 && resB x.result
end Go.Tcn
namespace Go.Proofs.YteebapopeaafhaaDoor
open Go.RowKit Go.Tcn
set_option linter.unusedVariables false
set_option linter.unusedSimpArgs false
set_option maxRecDepth 100000 in
set_option maxHeartbeats 4000000 in
theorem im_isImport (w : World) (x : Imp) (vp : Value) (hp : RInts w [] vp x.params) (hm : x.params.length ≤ 9223372036854775807) (hV : x.name.length ≤ 16 → ∀ w', Tch [] w w' → Calls Tryd.prog 66 #[.string ⟨x.name.toArray⟩] w' fun e w'' => e = .returned (.bool (Lib.validD x.name)) ∧ Tch [] w' w'') :
    Calls Tryd.prog 41 #[.agg #[.string ⟨x.name.toArray⟩, .int .i64 x.exp, vp, .int .i64 x.result]] w fun e w' => e = .returned (.bool (impB x)) ∧ Tch [] w w' := by
  obtain ⟨ap, cp, rfl⟩ := hp.form
  obtain ⟨V, hVd⟩ : ∃ V, V = w.alloc (.cells #[.string ⟨x.name.toArray⟩, .int .i64 x.exp, .slice ap x.params.length cp, .int .i64 x.result] 57) := ⟨_, rfl⟩
  have tV : Tch [] w V := by rw [hVd]; exact (Tch.refl [] w).alloc _
  have hB : Bq V w.heap.size (.string ⟨x.name.toArray⟩) (.int .i64 x.exp) (.slice ap x.params.length cp) (.int .i64 x.result) := by rw [hVd]; exact Bq.new _ _ _ _ _ _
  have hI := im_IsName V x.name (fun h16 w' t => hV h16 w' (tV.then t))
  go_enter Tryd.func41, Tryd.ntmps41
  go_upto_region 1 with fail
  rw [← hVd]
  clear hVd
  obtain ⟨b0, b1, b2, b3⟩ := hB
  go_wp2_with fail
  refine hI.mono ?_
  rintro e w1 ⟨rfl, t1⟩
  have hB1 := (Bq.mk b0 b1 b2 b3).tch t1 (by simp)
  clear b0 b1 b2 b3
  obtain ⟨b0, b1, b2, b3⟩ := hB1
  have T1 := tV.then t1
  cases hn : nameB x.name
  · have hr : impB x = false := by unfold impB; simp [hn]
    have HR := Lib.hid hr; clear hr
    go_wp2_with fail
    go_ret
    exact ⟨by rw [HR.out]; rfl, T1⟩
  · by_cases he : 0 ≤ x.exp ∧ x.exp < 4
    · have hr : impB x = (kindsB x.params 4 && resB x.result) := by unfold impB; simp [hn, he]
      have HR := Lib.hid hr; clear hr
      obtain ⟨e1, e2⟩ := he
      have hk := im_kinds w1 _ x.params (hp.tch T1 (by simp)) hm 4
      have hr2 := fun w => im_isResult w x.result
      generalize x.exp = xe at *
      generalize x.result = xr at *
      generalize kindsB x.params 4 = kb at *
      cases kb
      · go_wp2_with fail
        refine hk.mono ?_
        rintro e w2 ⟨rfl, rfl⟩
        go_wp2_with fail
        go_ret
        exact ⟨by rw [HR.out]; rfl, T1⟩
      · go_wp2_with fail
        refine hk.mono ?_
        rintro e w2 ⟨rfl, rfl⟩
        go_wp2_with fail
        refine (hr2 _).mono ?_
        rintro e w2 ⟨rfl, rfl⟩
        go_wp2_with fail
        go_ret
        exact ⟨by rw [HR.out]; rfl, T1⟩
    · have hr : impB x = false := by
        unfold impB
        rw [decide_eq_false he]
        simp
      have HR := Lib.hid hr; clear hr
      have hcs : decide (0 ≤ x.exp) = false ∨ (decide (0 ≤ x.exp) = true ∧ decide (x.exp < 4) = false) := by
        by_cases h1 : 0 ≤ x.exp
        · exact .inr ⟨decide_eq_true h1, decide_eq_false (fun h2 => he ⟨h1, h2⟩)⟩
        · exact .inl (decide_eq_false h1)
      clear he
      generalize x.exp = xe at *
      rcases hcs with h1 | ⟨h1, h2⟩
      · go_wp2_with fail
        go_ret
        exact ⟨by rw [HR.out]; rfl, T1⟩
      · go_wp2_with fail
        go_ret
        exact ⟨by rw [HR.out]; rfl, T1⟩
end Go.Proofs.YteebapopeaafhaaDoor
