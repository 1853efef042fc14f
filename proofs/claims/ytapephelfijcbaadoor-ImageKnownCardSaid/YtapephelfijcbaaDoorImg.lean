/-
  HELPERS over any program: how applets, methods, imports and codes lie in memory. Conditions: none.
-/
import Derived.Test.YtapephelfijcbaaDoorLib
namespace Go.Tcn
open Go.RowKit
set_option linter.unusedVariables false
set_option linter.unusedSimpArgs false
def ints (l : List Int) : List Value := l.map (Value.int .i64)
@[simp] theorem ints_length (l : List Int) : (ints l).length = l.length := by simp [ints]
theorem ints_append (l m : List Int) : ints (l ++ m) = ints l ++ ints m := by simp [ints]
theorem ints_one (l : List Int) : ∀ u ∈ ints l, u.oneCell' = true := by
  intro u hu
  simp [ints] at hu
  obtain ⟨x, _, rfl⟩ := hu
  rfl
/-- An instruction. -/
structure Ins where
  op : Int
  a : Int
  b : Int
deriving DecidableEq
def Ins.cells (x : Ins) : List Value := [.int .i64 x.op, .int .i64 x.a, .int .i64 x.b]
def codeCells (c : List Ins) : List Value := (c.map Ins.cells).flatten
structure Mth where
  params : List Int
  result : Int
  locals : List Int
  code : List Ins
deriving DecidableEq
structure Imp where
  name : List UInt8
  exp : Int
  params : List Int
  result : Int
deriving DecidableEq
structure Img where
  name : List UInt8
  fields : List Int
  imports : List Imp
  methods : List Mth
  exports : List Int
deriving DecidableEq
def str (l : List UInt8) : Value := .string ⟨l.toArray⟩
/-- A slice value reads as numbers. -/
def RInts (w : World) (L : List Nat) (v : Value) (l : List Int) : Prop := Src w L v l.length (ints l)
def RCode (w : World) (L : List Nat) (v : Value) (c : List Ins) : Prop := Src w L v c.length (codeCells c)
/-- Cells read as a method. -/
def RMth (w : World) (L : List Nat) (cs : List Value) (m : Mth) : Prop := ∃ vp vl vc, cs = [vp, .int .i64 m.result, vl, vc] ∧ RInts w L vp m.params ∧ RInts w L vl m.locals ∧ RCode w L vc m.code
def RImp (w : World) (L : List Nat) (cs : List Value) (x : Imp) : Prop := ∃ vp, cs = [str x.name, .int .i64 x.exp, vp, .int .i64 x.result] ∧ RInts w L vp x.params
/-- A slice value reads as a list of things of sz cells each. -/
structure RL {α : Type} (w : World) (L : List Nat) (sz : Nat) (R : List Value → α → Prop) (v : Value) (xs : List α) : Prop where
  ex : ∃ css : List (List Value), css.length = xs.length ∧ (∀ cs ∈ css, cs.length = sz) ∧ Src w L v xs.length css.flatten ∧ ∀ (k : Nat) cs x, css[k]? = some cs → xs[k]? = some x → R cs x
def RMths (w : World) (L : List Nat) (v : Value) (ms : List Mth) : Prop := RL w L 4 (RMth w L) v ms
def RImps (w : World) (L : List Nat) (v : Value) (xs : List Imp) : Prop := RL w L 4 (RImp w L) v xs
def RImg (w : World) (L : List Nat) (cs : List Value) (i : Img) : Prop := ∃ vf vi vm ve, cs = [str i.name, vf, vi, vm, ve] ∧ RInts w L vf i.fields ∧ RImps w L vi i.imports ∧ RMths w L vm i.methods ∧ RInts w L ve i.exports
theorem RInts.tch {w w' : World} {L L' : List Nat} {v : Value} {l : List Int} (h : RInts w L v l) (ht : Tch L' w w') (hl : ∀ i ∈ L', i < w.heap.size → i ∈ L) : RInts w' L v l := Src.tch h ht hl
theorem RCode.tch {w w' : World} {L L' : List Nat} {v : Value} {l : List Ins} (h : RCode w L v l) (ht : Tch L' w w') (hl : ∀ i ∈ L', i < w.heap.size → i ∈ L) : RCode w' L v l := Src.tch h ht hl
theorem RMth.tch {w w' : World} {L L' : List Nat} {cs : List Value} {m : Mth} (h : RMth w L cs m) (ht : Tch L' w w') (hl : ∀ i ∈ L', i < w.heap.size → i ∈ L) : RMth w' L cs m := by
  obtain ⟨vp, vl, vc, hc, h1, h2, h3⟩ := h
  exact ⟨vp, vl, vc, hc, h1.tch ht hl, h2.tch ht hl, h3.tch ht hl⟩
theorem RImp.tch {w w' : World} {L L' : List Nat} {cs : List Value} {m : Imp} (h : RImp w L cs m) (ht : Tch L' w w') (hl : ∀ i ∈ L', i < w.heap.size → i ∈ L) : RImp w' L cs m := by
  obtain ⟨vp, hc, h1⟩ := h
  exact ⟨vp, hc, h1.tch ht hl⟩
theorem RL.tch {α : Type} {w w' : World} {L L' : List Nat} {sz : Nat} {R R' : List Value → α → Prop} {v : Value} {xs : List α} (h : RL w L sz R v xs) (hR : ∀ cs x, R cs x → R' cs x) (ht : Tch L' w w') (hl : ∀ i ∈ L', i < w.heap.size → i ∈ L) : RL w' L sz R' v xs := by
  obtain ⟨css, h1, h2, h3, h4⟩ := h.ex
  exact ⟨css, h1, h2, h3.tch ht hl, fun k cs x a b => hR _ _ (h4 k cs x a b)⟩
theorem RMths.tch {w w' : World} {L L' : List Nat} {v : Value} {l : List Mth} (h : RMths w L v l) (ht : Tch L' w w') (hl : ∀ i ∈ L', i < w.heap.size → i ∈ L) : RMths w' L v l := RL.tch h (fun _ _ r => r.tch ht hl) ht hl
theorem RImps.tch {w w' : World} {L L' : List Nat} {v : Value} {l : List Imp} (h : RImps w L v l) (ht : Tch L' w w') (hl : ∀ i ∈ L', i < w.heap.size → i ∈ L) : RImps w' L v l := RL.tch h (fun _ _ r => r.tch ht hl) ht hl
theorem RImg.tch {w w' : World} {L L' : List Nat} {cs : List Value} {i : Img} (h : RImg w L cs i) (ht : Tch L' w w') (hl : ∀ i ∈ L', i < w.heap.size → i ∈ L) : RImg w' L cs i := by
  obtain ⟨vf, vi, vm, ve, hc, h1, h2, h3, h4⟩ := h
  exact ⟨vf, vi, vm, ve, hc, h1.tch ht hl, h2.tch ht hl, h3.tch ht hl, h4.tch ht hl⟩
/-- One cell of what reads as cells. -/
theorem Src.at {w : World} {L : List Nat} {ao : Option Addr} {m c : Nat} {news : List Value} (h : Src w L (.slice ao m c) m news) {j : Nat} (hj : j < news.length) :
    ∃ ad, ao = some ad ∧ ad.block < w.heap.size ∧ ad.block ∉ L ∧ w.cell? (ad.add j) = some news[j] := by
  rcases h.ex with ⟨_, _, h3⟩ | ⟨ad, c', h1, h2, h3⟩
  · subst h3; simp at hj
  · simp only [Value.slice.injEq] at h1
    obtain ⟨rfl, _, rfl⟩ := h1
    obtain ⟨h4, h5⟩ := h3 j news[j] (by simp [hj])
    have h6 := cell_lt h5
    rw [Addr_add_block] at h6
    exact ⟨ad, rfl, h6, h4, h5⟩
/-- The cells of the k-th of things of sz cells. -/
theorem flatten_at {css : List (List Value)} {sz k : Nat} (hs : ∀ cs ∈ css, cs.length = sz) (hk : k < css.length) {j : Nat} (hj : j < sz) : css.flatten[k * sz + j]? = css[k][j]? := by
  induction css generalizing k with
  | nil => simp at hk
  | cons c css ih =>
    have hc : c.length = sz := hs c (by simp)
    cases k with
    | zero => simp [List.getElem?_append_left (show j < c.length by omega)]
    | succ k =>
      have e : (k + 1) * sz + j = c.length + (k * sz + j) := by rw [hc, Nat.add_mul]; omega
      rw [List.flatten_cons, e, List.getElem?_append_right (by omega)]
      simp only [Nat.add_sub_cancel_left]
      simp only [List.length_cons] at hk
      rw [ih (fun cs h => hs cs (by simp [h])) (by omega)]
      simp
theorem flatten_length {css : List (List Value)} {sz : Nat} (hs : ∀ cs ∈ css, cs.length = sz) : css.flatten.length = css.length * sz := by
  induction css with
  | nil => simp
  | cons c css ih =>
    rw [List.flatten_cons, List.length_append, ih (fun cs h => hs cs (by simp [h])), hs c (by simp), List.length_cons, Nat.add_mul]
    omega
/-- The k-th of what a slice reads as. -/
theorem RL.at {α : Type} {w : World} {L : List Nat} {sz : Nat} {R : List Value → α → Prop} {ao : Option Addr} {m c : Nat} {xs : List α} (h : RL w L sz R (.slice ao m c) xs) {k : Nat} (hk : k < xs.length) (hsz : 0 < sz) :
    ∃ ad cs, ao = some ad ∧ ad.block < w.heap.size ∧ ad.block ∉ L ∧ cs.length = sz ∧ R cs xs[k] ∧ ∀ (j : Nat) u, cs[j]? = some u → w.cell? (ad.add (k * sz + j)) = some u := by
  obtain ⟨css, h1, h2, h3, h4⟩ := h.ex
  have hf := h3.form
  obtain ⟨_, _, hf⟩ := hf
  simp only [Value.slice.injEq] at hf
  obtain ⟨_, rfl, _⟩ := hf
  have hk' : k < css.length := by omega
  have hl := flatten_length h2
  have hle : (k + 1) * sz ≤ css.length * sz := Nat.mul_le_mul_right _ (by omega)
  rw [Nat.add_mul] at hle
  obtain ⟨ad, rfl, a1, a2, _⟩ := h3.at (j := k * sz) (by omega)
  refine ⟨ad, css[k], rfl, a1, a2, h2 _ (List.getElem_mem hk'), h4 k _ _ (by simp [hk']) (by simp [hk]), fun j u hj => ?_⟩
  have hjs : j < sz := by
    have := (List.getElem?_eq_some_iff.1 hj).1
    rw [h2 _ (List.getElem_mem hk')] at this
    exact this
  have hfl : k * sz + j < css.flatten.length := by omega
  obtain ⟨ad', e, _, _, hc⟩ := h3.at (j := k * sz + j) hfl
  simp only [Option.some.injEq] at e
  subst e
  rw [hc]
  have := flatten_at h2 hk' hjs
  rw [hj] at this
  rw [List.getElem?_eq_getElem hfl] at this
  exact this
end Go.Tcn
