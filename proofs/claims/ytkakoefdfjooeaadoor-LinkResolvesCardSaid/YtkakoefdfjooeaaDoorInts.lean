/-
  HELPERS for []int: opened, read, joined, fitted: the plain side. Conditions: none.
-/
import Derived.Test.YtkakoefdfjooeaaDoorLabel
import Derived.Test.YtkakoefdfjooeaaDoorClose
namespace Go.Tcn
open Go.RowKit Go.ChangeShapes Go.WideShapes Go.Deep
set_option linter.unusedVariables false
set_option linter.unusedSimpArgs false
def ins (l : List Int) : List Value := l.map (Value.int .i64)
theorem ins_length (l : List Int) : (ins l).length = l.length := by simp [ins]
theorem ins_append (l m : List Int) : ins (l ++ m) = ins l ++ ins m := by simp [ins]
theorem ins_one (l : List Int) : ∀ u ∈ ins l, u.oneCell' = true := by
  intro u hu
  simp [ins] at hu
  obtain ⟨x, _, rfl⟩ := hu
  rfl
theorem ins_take (l : List Int) (n : Nat) : ins (l.take n) = (ins l).take n := by simp [ins, List.map_take]
/-- Numbers of 64 bits. -/
def I64 (l : List Int) : Prop := ∀ x ∈ l, -9223372036854775808 ≤ x ∧ x ≤ 9223372036854775807
theorem I64.nil : I64 [] := fun x hx => by cases hx
section
variable {H : Type} {enc : TypeId × Value → H} {P : Program}
/-- Numbers that came in. -/
theorem open_src_ints {t e : TypeId} (ht : P.underlying t = some (.slice e)) (he : P.underlying e = some (.int .i64)) (hc : P.cellsOf e = 1) {W : World} {v : Value} {d : DataW H} {ps : List MemPlace} {fuel : Nat}
    (h : DataW.trod enc P W 0 (fun _ => true) true fuel t [v] = some (d, ps)) :
    ∃ l, Src W [] v l.length (ins l) ∧ I64 l ∧ l.length = dlen d ∧ l.length ≤ 9223372036854775807 := by
  rcases open_ints ht he hc h with ⟨h1, h2⟩ | ⟨a, len, cap, zs, h1, _, hl, hm, hz, hx, hcell, hwf⟩
  · simp only [List.cons.injEq, and_true] at h1
    subst h1
    simp only [Prod.mk.injEq] at h2
    obtain ⟨rfl, rfl⟩ := h2
    exact ⟨[], ⟨.inl ⟨rfl, rfl, rfl⟩⟩, I64.nil, rfl, by simp⟩
  · simp only [List.cons.injEq, and_true] at h1
    subst h1
    simp only [Prod.mk.injEq] at hx
    obtain ⟨rfl, rfl⟩ := hx
    simp only [if_true] at hz
    have hlen : (zs.take len).length = len := by simp; omega
    have hmx : cap ≤ 9223372036854775807 := by simpa [maxLen] using hm
    refine ⟨zs.take len, ?_, ?_, ?_, by omega⟩
    · rw [hlen]
      refine ⟨.inr ⟨a, cap, rfl, hl, fun j u hj => ?_⟩⟩
      have hj2 : j < len := by
        have := (List.getElem?_eq_some_iff.1 hj).1
        simp [ins] at this; omega
      refine ⟨by simp, ?_⟩
      rw [hcell j (by omega)]
      simp [ins, List.getElem?_take, hj2] at hj
      obtain ⟨y, hy, rfl⟩ := hj
      simp [List.getD, hy]
    · intro x hx
      have := hwf x (List.mem_of_mem_take hx)
      simp [Lit.wf, IntKind.min, IntKind.max, IntKind.signed, IntKind.bits] at this
      omega
    · simp [dlen, lits]
end
/-- One number of what reads as l. -/
theorem Src.num {w : World} {L : List Nat} {ao : Option Addr} {m c : Nat} {l : List Int} (h : Src w L (.slice ao m c) m (ins l)) {k : Nat} (hk : k < l.length) :
    ∃ ad, ao = some ad ∧ ad.block < w.heap.size ∧ ad.block ∉ L ∧ w.cell? (ad.add k) = some (.int .i64 l[k]) := by
  rcases h.ex with ⟨_, _, h3⟩ | ⟨ad, c', h1, h2, h3⟩
  · have := congrArg List.length h3
    rw [ins_length, List.length_nil] at this
    omega
  · simp only [Value.slice.injEq] at h1
    obtain ⟨rfl, _, rfl⟩ := h1
    obtain ⟨h4, h5⟩ := h3 k (.int .i64 l[k]) (by simp [ins, hk])
    have h6 := cell_lt h5
    rw [Addr_add_block] at h6
    exact ⟨ad, rfl, h6, h4, h5⟩
end Go.Tcn
namespace Go.Proofs.YtkakoefdfjooeaaDoor
set_option linter.unusedVariables false
set_option linter.unusedSimpArgs false
open Go.Tcn
def joinL : List Int → List Int → Option (List Int)
  | [], [] => some []
  | a :: x, b :: y => if joinB a b = true then (joinL x y).map (joinV a b :: ·) else none
  | _, _ => none
def joinO (x y : List Int) : List Int := (joinL x y).getD []
def joinK (x y : List Int) : Bool := (joinL x y).isSome
def fitsL : List Int → List Int → Bool
  | [], [] => true
  | a :: x, b :: y => fitsB a b && fitsL x y
  | _, _ => false
theorem joinL_length : ∀ (x y : List Int), x.length ≠ y.length → joinL x y = none
  | [], [], h => by simp at h
  | a :: x, b :: y, h => by
    unfold joinL
    rw [joinL_length x y (by simpa using h)]
    simp
  | [], _ :: _, _ => rfl
  | _ :: _, [], _ => rfl
theorem fitsL_length : ∀ (x y : List Int), x.length ≠ y.length → fitsL x y = false
  | [], [], h => by simp at h
  | a :: x, b :: y, h => by
    unfold fitsL
    rw [fitsL_length x y (by simpa using h)]
    simp
  | [], _ :: _, _ => rfl
  | _ :: _, [], _ => rfl
theorem joinL_out : ∀ (x y p : List Int), joinL x y = some p → p.length = x.length ∧ p.length = y.length
  | [], [], p, h => by simp [joinL] at h; subst h; simp
  | a :: x, b :: y, p, h => by
    unfold joinL at h
    split at h
    · obtain ⟨q, hq, rfl⟩ := Option.map_eq_some_iff.1 h
      have := joinL_out x y q hq
      simp only [List.length_cons]
      omega
    · cases h
  | [], _ :: _, _, h => by simp [joinL] at h
  | _ :: _, [], _, h => by simp [joinL] at h
theorem joinB_comm (a b : Int) : joinB a b = joinB b a := by
  unfold joinB isIntB isArrB
  rw [Bool.eq_iff_iff]
  simp
  omega
theorem joinV_comm (a b : Int) (h : joinB a b = true) : joinV a b = joinV b a := by
  unfold joinB isIntB isArrB at h
  unfold joinV bothV isIntB isArrB
  simp at h ⊢
  repeat' split
  all_goals omega
theorem joinL_comm : ∀ (x y : List Int), joinL x y = joinL y x
  | [], [] => rfl
  | a :: x, b :: y => by
    unfold joinL
    rw [joinL_comm x y, joinB_comm a b]
    split
    · rename_i h
      rw [joinV_comm b a h]
    · rfl
  | [], _ :: _ => rfl
  | _ :: _, [] => rfl
theorem joinB_assoc (a b c : Int) (h : joinB a b = true) : joinB (joinV a b) c = (joinB b c && joinB a (joinV b c)) := by
  unfold joinB joinV bothV isIntB isArrB at *
  rw [Bool.eq_iff_iff]
  simp at h ⊢
  repeat' split
  all_goals omega
theorem joinV_assoc (a b c : Int) (h : joinB a b = true) (h2 : joinB b c = true) : joinV (joinV a b) c = joinV a (joinV b c) := by
  unfold joinB isIntB isArrB at h h2
  unfold joinV bothV isIntB isArrB
  simp at h h2 ⊢
  repeat' split
  all_goals omega
theorem joinL_assoc : ∀ (x y z p : List Int), joinL x y = some p → joinL p z = (joinL y z).bind (joinL x)
  | [], [], z, p, h => by
    simp [joinL] at h; subst h
    cases z <;> simp [joinL]
  | a :: x, b :: y, z, p, h => by
    unfold joinL at h
    split at h
    · rename_i hab
      obtain ⟨q, hq, rfl⟩ := Option.map_eq_some_iff.1 h
      cases z with
      | nil => simp [joinL]
      | cons c z =>
        have ih := joinL_assoc x y z q hq
        simp only [joinL]
        rw [ih, joinB_assoc a b c hab]
        cases hbc : joinB b c
        · simp
        · rw [joinV_assoc a b c hab hbc]
          cases hr : joinL y z with
          | none => simp
          | some r => simp [joinL]
    · cases h
  | [], _ :: _, _, _, h => by simp [joinL] at h
  | _ :: _, [], _, _, h => by simp [joinL] at h
theorem fitsL_join : ∀ (x y p : List Int), joinL x y = some p → fitsL x p = true
  | [], [], p, h => by simp [joinL] at h; subst h; rfl
  | a :: x, b :: y, p, h => by
    unfold joinL at h
    split at h
    · rename_i hab
      obtain ⟨q, hq, rfl⟩ := Option.map_eq_some_iff.1 h
      unfold fitsL
      rw [fitsL_join x y q hq, Bool.and_true]
      unfold joinB isIntB isArrB at hab
      unfold fitsB joinV bothV isIntB isArrB
      simp at hab ⊢
      repeat' split
      all_goals omega
    · cases h
  | [], _ :: _, _, h => by simp [joinL] at h
  | _ :: _, [], _, h => by simp [joinL] at h
theorem joinL_at (x y : List Int) (k : Nat) (hx : k < x.length) (hy : k < y.length) : joinL (x.drop k) (y.drop k) = if joinB x[k] y[k] = true then (joinL (x.drop (k + 1)) (y.drop (k + 1))).map (joinV x[k] y[k] :: ·) else none := by
  rw [List.drop_eq_getElem_cons hx, List.drop_eq_getElem_cons hy]
  rfl
theorem fitsL_at (x y : List Int) (k : Nat) (hx : k < x.length) (hy : k < y.length) : fitsL (x.drop k) (y.drop k) = (fitsB x[k] y[k] && fitsL (x.drop (k + 1)) (y.drop (k + 1))) := by
  rw [List.drop_eq_getElem_cons hx, List.drop_eq_getElem_cons hy]
  rfl
theorem eq_at (x y : List Int) (k : Nat) (hx : k < x.length) (hy : k < y.length) : (x.drop k = y.drop k) = (x[k] = y[k] ∧ x.drop (k + 1) = y.drop (k + 1)) := by
  rw [List.drop_eq_getElem_cons hx, List.drop_eq_getElem_cons hy]
  exact List.cons.injEq _ _ _ _
/-- One kind of a raw number. -/
def kindOf (n : Int) (any : Bool) : Int := if any = true ∧ n.tmod 17 = 16 then n.tmod 7 else 1 + n % 4
def fewK (l : List Int) (any : Bool) : List Int := (l.take 10).map (kindOf · any)
theorem fewK_length (l : List Int) (any : Bool) : (fewK l any).length = min 10 l.length := by simp [fewK]
theorem take_kind (l : List Int) (any : Bool) (k : Nat) (h : k < l.length) : (l.take (k + 1)).map (kindOf · any) = (l.take k).map (kindOf · any) ++ [kindOf l[k] any] := by
  rw [List.take_succ_eq_append_getElem h, List.map_append]
  rfl
end Go.Proofs.YtkakoefdfjooeaaDoor
