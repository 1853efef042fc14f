/-
  PLAIN LAW: text: what a parser keeps from line to line: sizes; where it stands. Conditions: none.
-/
import Derived.Test.YteebapopeaafhaaDoorHTx2
import Derived.Test.YteebapopeaafhaaDoorHIma
namespace Go.Tcn
open Go.RowKit
set_option linter.unusedVariables false
set_option linter.unusedSimpArgs false
/-- Sizes. -/
def ZT (K : Nat) (i : Img) : Prop := i.fields.length ≤ K ∧ i.imports.length ≤ K ∧ i.methods.length ≤ K ∧ i.exports.length ≤ K ∧ (∀ x ∈ i.imports, x.params.length ≤ 1099511627776) ∧ ∀ m ∈ i.methods, m.params.length ≤ 1099511627776 ∧ m.locals.length ≤ 1099511627776 ∧ m.code.length ≤ K ∧ ∀ x ∈ m.code, I6 x.b
theorem ZT.mono {K K' : Nat} {i : Img} (h : ZT K i) (hk : K ≤ K') : ZT K' i := by
  obtain ⟨h1, h2, h3, h4, h5, h6⟩ := h
  exact ⟨by omega, by omega, by omega, by omega, h5, fun m hm => by
    obtain ⟨a, b, c, d⟩ := h6 m hm
    exact ⟨a, b, by omega, d⟩⟩
theorem ZT.z {K : Nat} {i : Img} (h : ZT K i) (hk : K ≤ 1099511627776) : ImgZ i := by
  obtain ⟨h1, h2, h3, h4, h5, h6⟩ := h
  refine ⟨by omega, by omega, fun x hx => by have := h5 x hx; omega, by omega, fun m hm => ?_, by omega⟩
  obtain ⟨a, b, c, d⟩ := h6 m hm
  exact ⟨by omega, by omega, by omega, d⟩
theorem num_I6 {w : Wd} {n : Int} (h : numW w = some n) : I6 n := by
  have := numW_le w n h
  unfold I6
  omega
theorem ins_I6 {op : Int} {ws : List Wd} {x : Ins} (h : insW UU op ws = some x) : I6 x.b := by
  unfold insW at h
  split at h
  · cases h
  · match ws, h with
    | [], h =>
      simp only [Option.some.injEq] at h
      rw [← h]; exact (⟨by decide, by decide⟩ : I6 0)
    | [a], h =>
      simp only at h
      cases hn : UU.num a with
      | none => rw [hn] at h; cases h
      | some n =>
        rw [hn] at h
        simp only [Option.map_some, Option.some.injEq] at h
        rw [← h]; exact (⟨by decide, by decide⟩ : I6 0)
    | a :: b :: _, h =>
      simp only at h
      cases hn : UU.num a with
      | none => rw [hn] at h; cases h
      | some n =>
        cases hm : UU.num b with
        | none => rw [hn, hm] at h; cases h
        | some y =>
          rw [hn, hm] at h
          simp only [Option.some.injEq] at h
          rw [← h]
          exact num_I6 hm
theorem addLast_mem {ms : List Mth} {f : Mth → Mth} {x : Mth} (h : x ∈ addLast ms f) : x ∈ ms ∨ ∃ m ∈ ms, x = f m := by
  unfold addLast at h
  cases hl : ms.getLast? with
  | none => rw [hl] at h; exact .inl h
  | some m =>
    rw [hl] at h
    simp only at h
    rcases List.mem_append.1 h with h | h
    · exact .inl ((List.dropLast_sublist ms).subset h)
    · simp at h
      exact .inr ⟨m, List.mem_of_getLast? hl, h⟩
theorem addLast_len (ms : List Mth) (f : Mth → Mth) : (addLast ms f).length = ms.length := by
  unfold addLast
  cases hl : ms.getLast? with
  | none => rfl
  | some m =>
    have : ms ≠ [] := by intro e; rw [e] at hl; simp at hl
    have := List.length_pos_iff.2 this
    simp; omega
theorem sub_keeps {i i' : Img} {s s' : Nat} {f : Bool} {w0 : Wd} {r : List Wd} {K : Nat} (h : subT UU i s f w0 r = some (i', s')) (hr : r.length ≤ 1099511627776) (hz : ZT K i) (hv : s = 3 → i.methods ≠ []) :
    ZT (K + 1) i' ∧ (s' = 3 → i'.methods ≠ []) ∧ (w0 = kMethod → s' = 3) := by
  have hz1 := hz.mono (Nat.le_succ K)
  obtain ⟨h1, h2, h3, h4, h5, h6⟩ := hz
  obtain ⟨n21, n31, n32, n41, n42, n43, n51, n52, n53, n54, n61, n62, n63, n64, n65⟩ := kw_ne
  unfold subT at h
  split at h
  · rename_i c
    unfold appletT at h
    split at h
    · cases h
    · match r, h with
      | [n], h =>
        simp only at h
        split at h
        · simp only [Option.some.injEq, Prod.mk.injEq] at h
          obtain ⟨rfl, rfl⟩ := h
          exact ⟨hz1, hv, fun e => absurd (c.symm.trans e) n41.symm⟩
        · cases h
  split at h
  · rename_i c
    unfold fieldT at h
    split at h
    · cases h
    · split at h
      · simp only [Option.some.injEq, Prod.mk.injEq] at h
        obtain ⟨rfl, rfl⟩ := h
        obtain ⟨z1, z2, z3, z4, z5, z6⟩ := hz1
        exact ⟨⟨by simp; omega, z2, z3, z4, z5, z6⟩, fun e => absurd e (by decide), fun e => absurd (c.symm.trans e) n42.symm⟩
      · cases h
  split at h
  · rename_i c
    unfold importT at h
    split at h
    · cases h
    · match r, h with
      | n :: e :: k :: ps, h =>
        simp only at h
        split at h
        · split at h
          · rename_i _ x l hn hk
            simp only [Option.some.injEq, Prod.mk.injEq] at h
            obtain ⟨rfl, rfl⟩ := h
            have hl := kinds_len ps l hk
            obtain ⟨z1, z2, z3, z4, z5, z6⟩ := hz1
            refine ⟨⟨z1, by simp; omega, z3, z4, fun x hx => ?_, z6⟩, fun e => absurd e (by decide), fun e => absurd (c.symm.trans e) n43.symm⟩
            rcases List.mem_append.1 hx with hx | hx
            · exact z5 x hx
            · simp at hx
              rw [hx]
              simp at hr
              simp only; omega
          · cases h
        · cases h
  split at h
  · rename_i c
    unfold methodT at h
    split at h
    · cases h
    · match r, h with
      | k :: ps, h =>
        simp only at h
        split at h
        · split at h
          · rename_i _ l hk
            simp only [Option.some.injEq, Prod.mk.injEq] at h
            obtain ⟨rfl, rfl⟩ := h
            have hl := kinds_len ps l hk
            obtain ⟨z1, z2, z3, z4, z5, z6⟩ := hz1
            refine ⟨⟨z1, z2, by simp; omega, z4, z5, fun m hm => ?_⟩, fun _ => by simp, fun _ => rfl⟩
            rcases List.mem_append.1 hm with hm | hm
            · exact z6 m hm
            · simp at hm
              rw [hm]
              simp at hr
              exact ⟨by simp only; omega, by simp, by simp, by simp⟩
          · cases h
        · cases h
  split at h
  · rename_i c
    unfold localsT at h
    split at h
    · rename_i _ k l hk
      have hl := kinds_len _ _ hk
      split at h
      · simp only [Option.some.injEq, Prod.mk.injEq] at h
        obtain ⟨rfl, rfl⟩ := h
        obtain ⟨z1, z2, z3, z4, z5, z6⟩ := hz1
        refine ⟨⟨z1, z2, by rw [addLast_len]; exact z3, z4, z5, fun m hm => ?_⟩, fun e => by rw [ne_eq, addLast_ne]; exact hv e, fun e => absurd (c.symm.trans e) n54⟩
        rcases addLast_mem hm with hm | ⟨m', hm', rfl⟩
        · exact z6 m hm
        · obtain ⟨a, b, c, d⟩ := z6 m' hm'
          exact ⟨a, by simp only; omega, c, d⟩
      · cases h
    · cases h
  split at h
  · rename_i c
    unfold exportT at h
    split at h
    · cases h
    · match r, h with
      | [e], h =>
        simp only at h
        cases hn : UU.num e with
        | none => rw [hn] at h; cases h
        | some x =>
          rw [hn] at h
          simp only [Option.map_some, Option.some.injEq, Prod.mk.injEq] at h
          obtain ⟨rfl, rfl⟩ := h
          obtain ⟨z1, z2, z3, z4, z5, z6⟩ := hz1
          exact ⟨⟨z1, z2, z3, by simp; omega, z5, z6⟩, fun e => absurd e (by decide), fun e => absurd (c.symm.trans e) n64⟩
  · rename_i c4 c5 c6
    unfold instrT at h
    split at h
    · cases h
    · cases hx : insW UU (UU.op w0) r with
      | none => rw [hx] at h; cases h
      | some x =>
        rw [hx] at h
        simp only [Option.map_some, Option.some.injEq, Prod.mk.injEq] at h
        obtain ⟨rfl, rfl⟩ := h
        have hb := ins_I6 hx
        obtain ⟨z1, z2, z3, z4, z5, z6⟩ := hz1
        refine ⟨⟨z1, z2, by rw [addLast_len]; exact z3, z4, z5, fun m hm => ?_⟩, fun e => by rw [ne_eq, addLast_ne]; exact hv e, fun e => ?_⟩
        · rcases addLast_mem hm with hm | ⟨m', hm', rfl⟩
          · exact z6 m hm
          · obtain ⟨a, b, c, d⟩ := h6 m' hm'
            refine ⟨a, b, by simp; omega, fun y hy => ?_⟩
            rcases List.mem_append.1 hy with hy | hy
            · exact d y hy
            · simp at hy; rw [hy]; exact hb
        · first | exact absurd e ‹¬ w0 = kMethod› | contradiction
theorem spT_wlen : ∀ (f : Nat) (l w : Wd), ∀ x ∈ spT f l w, x.length ≤ w.length + 4 * l.length
  | 0, l, w, x, hx => by
    simp only [spT, flW] at hx
    split at hx
    · cases hx
    · simp at hx; rw [hx]; omega
  | f + 1, l, w, x, hx => by
    rw [spT] at hx
    have hfl : ∀ y ∈ flW w, y.length ≤ w.length := fun y hy => by
      unfold flW at hy
      split at hy
      · cases hy
      · simp at hy; rw [hy]; omega
    split at hx
    · have := hfl x hx; omega
    · rename_i hne
      have hle := Lib.decodeL_le l hne
      have hw := Lib.decodeL_width l
      have he := enc_len ((Lib.decodeL l).1 : Int)
      split at hx
      · have := hfl x hx; omega
      · split at hx
        · rcases List.mem_append.1 hx with hx | hx
          · have := hfl x hx; omega
          · have := spT_wlen f _ _ x hx
            rw [List.length_drop] at this
            simp at this
            omega
        · have := spT_wlen f _ _ x hx
          rw [List.length_drop, List.length_append] at this
          omega
end Go.Tcn
