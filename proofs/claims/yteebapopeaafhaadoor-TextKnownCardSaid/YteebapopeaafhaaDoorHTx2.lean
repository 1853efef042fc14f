/-
  HELPERS over any program: an image that is being read: its rows are the call's own. Conditions: none.
  CONTRACTS: text and the document: kinds and their names. Conditions: none.
  CONTRACTS: text: a line's words, rune by rune; kinds of words; the document's words, byte by byte. Conditions: a line is shorter than 2^40 bytes.
  CONTRACTS: text: a number of a word. Conditions: the word is shorter than 2^40 bytes.
  CONTRACTS: the library's functions that text calls, as the shelf has them: CutPrefix, Split, Join, Itoa. Conditions: each one's own.
  HELPERS over any program: text's parser of lines, in memory; what each line's function leaves. Conditions: none.
  CONTRACTS: text's parser: reach, applet, field, export. Conditions: utf8's tables as they are laid.
  CONTRACTS: text's parser: field, export. Conditions: utf8's tables as they are laid.
-/
import Derived.Test.YteebapopeaafhaaDoorHCodeP
import Derived.Test.YteebapopeaafhaaDoorRows
import Derived.Test.YteebapopeaafhaaDoorHTxR
import Derived.Laws.RangeAny
import Derived.Lib.OthersKept
import Derived.Lib.RuneBytes
import Derived.Test.YteebapopeaafhaaDoorHShelfT
import Derived.Lib.CountLaws
import Derived.Lib.SplitLaws
import Derived.Test.YteebapopeaafhaaDoorHImi
namespace Go.Tcn
open Go.RowKit
set_option linter.unusedVariables false
set_option linter.unusedSimpArgs false
/-- A row that a call owns: its elements' type, their size, the slice value, how many, the cells. -/
structure RwT where
  E : TypeId
  sz : Nat
  v : Value
  n : Nat
  xs : List Value
def RwT.own (r : RwT) (w : World) : Prop := w.ownsRow 0 r.E r.sz r.v r.n r.xs
/-- Rows of one object, whose own block is b: no two lie in one block. -/
structure MR (w : World) (b : Nat) (rows : List RwT) : Prop where
  own : ∀ r ∈ rows, r.own w ∧ r.v.ownBlock ≠ some b
  apart : ∀ (i j : Nat) r s, rows[i]? = some r → rows[j]? = some s → i ≠ j → ∀ k, r.v.ownBlock = some k → s.v.ownBlock ≠ some k
/-- The blocks of an object and its rows. -/
def ownL (b : Nat) (rows : List RwT) : List Nat := b :: rows.map fun r => r.v.ownBlock.getD b
theorem ownL_mem {b : Nat} {rows : List RwT} {r : RwT} (h : r ∈ rows) {k : Nat} (hk : r.v.ownBlock = some k) : k ∈ ownL b rows := by
  unfold ownL
  refine List.mem_cons_of_mem _ (List.mem_map.2 ⟨r, h, ?_⟩)
  rw [hk]; rfl
theorem ownL_b {b : Nat} {rows : List RwT} : b ∈ ownL b rows := List.mem_cons_self
theorem MR.lt {w : World} {b : Nat} {rows : List RwT} (h : MR w b rows) (hb : b < w.heap.size) : ∀ i ∈ ownL b rows, i < w.heap.size := by
  intro i hi
  unfold ownL at hi
  rcases List.mem_cons.1 hi with rfl | hi
  · exact hb
  · obtain ⟨r, hr, rfl⟩ := List.mem_map.1 hi
    cases hk : r.v.ownBlock with
    | none => exact hb
    | some k => exact (World.ownsRow.lt (h.own r hr).1 k hk).2
/-- New blocks of an object are old ones of it, or new. -/
def NewL (w : World) (O O' : List Nat) : Prop := ∀ i ∈ O', i ∈ O ∨ w.heap.size ≤ i
theorem NewL.refl (w : World) (O : List Nat) : NewL w O O := fun _ h => .inl h
theorem NewL.trans {w w' : World} {O O' O'' : List Nat} (h : NewL w O O') (k : NewL w' O' O'') (hs : w.heap.size ≤ w'.heap.size) : NewL w O O'' := fun i hi => by
  rcases k i hi with h' | h'
  · exact h i h'
  · exact .inr (Nat.le_trans hs h')
/-- What lies beside an object stays beside it. -/
theorem Src.step {w w' : World} {O O' : List Nat} {v : Value} {m : Nat} {news : List Value} (h : Src w O v m news) (t : Tch O w w') (hn : NewL w O O') : Src w' O' v m news := by
  have s1 : Src w (O ++ O') v m news := h.mono (fun i hi hlt => by
    rcases List.mem_append.1 hi with h' | h'
    · exact h'
    · rcases hn i h' with h'' | h''
      · exact h''
      · omega)
  have s2 := s1.tch t (fun i hi _ => List.mem_append_left O' hi)
  exact s2.mono (fun i hi _ => List.mem_append_right O hi)
theorem RMth.step {w w' : World} {O O' : List Nat} {cs : List Value} {m : Mth} (h : RMth w O cs m) (t : Tch O w w') (hn : NewL w O O') : RMth w' O' cs m := by
  obtain ⟨vp, vl, vc, hc, h1, h2, h3⟩ := h
  exact ⟨vp, vl, vc, hc, Src.step h1 t hn, Src.step h2 t hn, Src.step h3 t hn⟩
theorem RImp.step {w w' : World} {O O' : List Nat} {cs : List Value} {m : Imp} (h : RImp w O cs m) (t : Tch O w w') (hn : NewL w O O') : RImp w' O' cs m := by
  obtain ⟨vp, hc, h1⟩ := h
  exact ⟨vp, hc, Src.step h1 t hn⟩
/-- Nothing of the rows turns. -/
theorem MR.tch {w w' : World} {b : Nat} {rows : List RwT} {L : List Nat} (h : MR w b rows) (t : Tch L w w') (hL : ∀ r ∈ rows, ∀ k, r.v.ownBlock = some k → k ∉ L) : MR w' b rows :=
  ⟨fun r hr => ⟨ownsRow_tch (h.own r hr).1 t (hL r hr), (h.own r hr).2⟩, h.apart⟩
theorem MR.tch0 {w w' : World} {b : Nat} {rows : List RwT} (h : MR w b rows) (t : Tch [] w w') : MR w' b rows := h.tch t (fun _ _ _ _ => by simp)
theorem MR.setb {w w' : World} {b : Nat} {rows : List RwT} (h : MR w b rows) (t : Tch [b] w w') : MR w' b rows := h.tch t (fun r hr k hk hx => by
  simp at hx; subst hx; exact (h.own r hr).2 hk)
theorem getElem?_set' {α : Type} (l : List α) (i j : Nat) (x : α) (y : α) (h : (l.set i x)[j]? = some y) : (j = i ∧ y = x) ∨ (j ≠ i ∧ l[j]? = some y) := by
  by_cases e : j = i
  · subst e
    rw [List.getElem?_set_self'] at h
    simp at h
    exact .inl ⟨rfl, h.2.symm⟩
  · rw [List.getElem?_set_ne (fun e' => e e'.symm)] at h
    exact .inr ⟨e, h⟩
/-- One row grows; the others stay. -/
theorem MR.grow {w w' : World} {b : Nat} {rows : List RwT} {j : Nat} {r r' : RwT} (h : MR w b rows) (hb : b < w.heap.size) (hj : rows[j]? = some r) (hg : w.grownBy w' r.v.ownBlock) (ho : r'.own w') (hat : r'.v.ownBlock = r.v.ownBlock ∨ r'.v.ownBlock = some w.heap.size) :
    MR w' b (rows.set j r') ∧ Tch (ownL b rows) w w' ∧ NewL w (ownL b rows) (ownL b (rows.set j r')) := by
  have hr : r ∈ rows := List.mem_of_getElem? hj
  have hlt := h.lt hb
  have hother : ∀ i s, rows[i]? = some s → i ≠ j → s.own w' := fun i s hi hne => by
    refine (h.own s (List.mem_of_getElem? hi)).1.kept hg ?_
    cases hk : s.v.ownBlock with
    | none => exact .inl rfl
    | some k => right; intro e; exact h.apart i j s r hi hj hne k hk e.symm
  refine ⟨⟨fun s hs => ?_, fun i k s t hi hk hne q hq => ?_⟩, ⟨hg.os, hg.tape, hg.output, hg.size, fun k hk hm => ?_⟩, fun i hi => ?_⟩
  · obtain ⟨i, hi⟩ := List.getElem?_of_mem hs
    rcases getElem?_set' rows j i r' s hi with ⟨e, rfl⟩ | ⟨e, h1⟩
    · refine ⟨ho, ?_⟩
      rcases hat with e | e
      · rw [e]; exact (h.own r hr).2
      · rw [e]; simp; omega
    · exact ⟨hother i s h1 e, (h.own s (List.mem_of_getElem? h1)).2⟩
  · rcases getElem?_set' rows j i r' s hi with ⟨e, rfl⟩ | ⟨e, h1⟩
    · rcases getElem?_set' rows j k s t hk with ⟨e2, _⟩ | ⟨e2, h2⟩
      · omega
      · intro ht
        rcases hat with e3 | e3
        · rw [e3] at hq
          exact h.apart j k r t hj h2 (fun e => e2 e.symm) q hq ht
        · rw [e3] at hq
          simp at hq
          have := (World.ownsRow.lt (h.own t (List.mem_of_getElem? h2)).1 q ht).2
          omega
    · rcases getElem?_set' rows j k r' t hk with ⟨e2, rfl⟩ | ⟨e2, h2⟩
      · intro ht
        rcases hat with e3 | e3
        · rw [e3] at ht
          exact h.apart i j s r h1 hj e q hq ht
        · rw [e3] at ht
          simp at ht
          have := (World.ownsRow.lt (h.own s (List.mem_of_getElem? h1)).1 q hq).2
          omega
      · exact h.apart i k s t h1 h2 hne q hq
  · exact hg.block k hk (fun e => hm (ownL_mem hr e.symm))
  · unfold ownL at hi
    rcases List.mem_cons.1 hi with rfl | hi
    · exact .inl ownL_b
    · obtain ⟨s, hs, rfl⟩ := List.mem_map.1 hi
      obtain ⟨i, hi⟩ := List.getElem?_of_mem hs
      rcases getElem?_set' rows j i r' s hi with ⟨e, rfl⟩ | ⟨e, h1⟩
      · rcases hat with e3 | e3
        · rw [e3]
          cases hk : r.v.ownBlock with
          | none => exact .inl ownL_b
          | some k => exact .inl (ownL_mem hr hk)
        · rw [e3]; right; simp
      · cases hk : s.v.ownBlock with
        | none => exact .inl ownL_b
        | some k => exact .inl (ownL_mem (List.mem_of_getElem? h1) hk)
/-- A row is put aside: it is read on, but no more written. -/
theorem MR.fresh {w : World} {b : Nat} {rows : List RwT} {j : Nat} {r' : RwT} (h : MR w b rows) (ho : r'.own w) (hnone : r'.v.ownBlock = none) : MR w b (rows.set j r') ∧ NewL w (ownL b rows) (ownL b (rows.set j r')) := by
  refine ⟨⟨fun s hs => ?_, fun i k s t hi hk hne q hq => ?_⟩, fun i hi => ?_⟩
  · obtain ⟨i, hi⟩ := List.getElem?_of_mem hs
    rcases getElem?_set' rows j i r' s hi with ⟨e, rfl⟩ | ⟨e, h1⟩
    · exact ⟨ho, by rw [hnone]; simp⟩
    · exact h.own s (List.mem_of_getElem? h1)
  · rcases getElem?_set' rows j i r' s hi with ⟨e, rfl⟩ | ⟨e, h1⟩
    · rw [hnone] at hq; cases hq
    · rcases getElem?_set' rows j k r' t hk with ⟨e2, rfl⟩ | ⟨e2, h2⟩
      · rw [hnone]; simp
      · exact h.apart i k s t h1 h2 hne q hq
  · unfold ownL at hi
    rcases List.mem_cons.1 hi with rfl | hi
    · exact .inl ownL_b
    · obtain ⟨s, hs, rfl⟩ := List.mem_map.1 hi
      obtain ⟨i, hi⟩ := List.getElem?_of_mem hs
      rcases getElem?_set' rows j i r' s hi with ⟨e, rfl⟩ | ⟨e, h1⟩
      · rw [hnone]; exact .inl ownL_b
      · cases hk : s.v.ownBlock with
        | none => exact .inl ownL_b
        | some k => exact .inl (ownL_mem (List.mem_of_getElem? h1) hk)
/-- The methods of an image that is being read: the last one's code is the call's own row. -/
def MthS (w : World) (O : List Nat) (vc : Value) (cn : Nat) (ccs : List Value) (mcss : List (List Value)) (ms : List Mth) : Prop :=
  (ms = [] ∧ mcss = [] ∧ cn = 0 ∧ ccs = [] ∧ vc = .slice none 0 0) ∨
  ∃ ms0 m css vp vl, ms = ms0 ++ [m] ∧ mcss = css ++ [[vp, .int .i64 m.result, vl, vc]] ∧ cn = m.code.length ∧ ccs = codeCells m.code ∧ RInts w O vp m.params ∧ RInts w O vl m.locals ∧
    css.length = ms0.length ∧ (∀ cs ∈ css, cs.length = 4) ∧ ∀ (k : Nat) cs x, css[k]? = some cs → ms0[k]? = some x → RMth w O cs x
theorem MthS.step {w w' : World} {O O' : List Nat} {vc : Value} {cn : Nat} {ccs : List Value} {mcss : List (List Value)} {ms : List Mth} (h : MthS w O vc cn ccs mcss ms) (t : Tch O w w') (hn : NewL w O O') : MthS w' O' vc cn ccs mcss ms := by
  rcases h with h | ⟨ms0, m, css, vp, vl, h1, h2, h3, h4, h5, h6, h7, h8, h9⟩
  · exact .inl h
  · exact .inr ⟨ms0, m, css, vp, vl, h1, h2, h3, h4, Src.step h5 t hn, Src.step h6 t hn, h7, h8, fun k cs x a c => (h9 k cs x a c).step t hn⟩
def ImpS (w : World) (O : List Nat) (icss : List (List Value)) (is : List Imp) : Prop :=
  icss.length = is.length ∧ (∀ cs ∈ icss, cs.length = 4) ∧ ∀ (k : Nat) cs x, icss[k]? = some cs → is[k]? = some x → RImp w O cs x
theorem ImpS.step {w w' : World} {O O' : List Nat} {icss : List (List Value)} {is : List Imp} (h : ImpS w O icss is) (t : Tch O w w') (hn : NewL w O O') : ImpS w' O' icss is :=
  ⟨h.1, h.2.1, fun k cs x a c => (h.2.2 k cs x a c).step t hn⟩
section
variable (INT TI TM TC : TypeId)
/-- The five rows of an image that is being read. -/
def rowsI (vf vi vm ve vc : Value) (i : Img) (icss mcss : List (List Value)) (cn : Nat) (ccs : List Value) : List RwT :=
  [⟨INT, 1, vf, i.fields.length, ints i.fields⟩, ⟨TI, 4, vi, i.imports.length, icss.flatten⟩, ⟨TM, 4, vm, i.methods.length, mcss.flatten⟩, ⟨INT, 1, ve, i.exports.length, ints i.exports⟩, ⟨TC, 3, vc, cn, ccs⟩]
/-- An image that is being read; b: the reader's own block; O: all its blocks. -/
def IO (w : World) (b : Nat) (O : List Nat) (vf vi vm ve : Value) (i : Img) : Prop :=
  ∃ vc icss mcss cn ccs, MR w b (rowsI INT TI TM TC vf vi vm ve vc i icss mcss cn ccs) ∧ O = ownL b (rowsI INT TI TM TC vf vi vm ve vc i icss mcss cn ccs) ∧ ImpS w O icss i.imports ∧ MthS w O vc cn ccs mcss i.methods
variable {INT TI TM TC : TypeId}
theorem IO.b {w : World} {b : Nat} {O : List Nat} {vf vi vm ve : Value} {i : Img} (h : IO INT TI TM TC w b O vf vi vm ve i) : b ∈ O := by
  obtain ⟨vc, icss, mcss, cn, ccs, _, rfl, _⟩ := h
  exact ownL_b
theorem IO.lt {w : World} {b : Nat} {O : List Nat} {vf vi vm ve : Value} {i : Img} (h : IO INT TI TM TC w b O vf vi vm ve i) (hb : b < w.heap.size) : ∀ k ∈ O, k < w.heap.size := by
  obtain ⟨vc, icss, mcss, cn, ccs, h1, rfl, _⟩ := h
  exact h1.lt hb
theorem IO.setb {w w' : World} {b : Nat} {O : List Nat} {vf vi vm ve : Value} {i : Img} (h : IO INT TI TM TC w b O vf vi vm ve i) (t : Tch [b] w w') : IO INT TI TM TC w' b O vf vi vm ve i := by
  have hb := h.b
  obtain ⟨vc, icss, mcss, cn, ccs, h1, h2, h3, h4⟩ := h
  have t' : Tch O w w' := t.mono (fun k _ hk => by simp at hk; subst hk; exact hb)
  exact ⟨vc, icss, mcss, cn, ccs, h1.setb t, h2, h3.step t' (NewL.refl _ _), h4.step t' (NewL.refl _ _)⟩
theorem IO.tch0 {w w' : World} {b : Nat} {O : List Nat} {vf vi vm ve : Value} {i : Img} (h : IO INT TI TM TC w b O vf vi vm ve i) (t : Tch [] w w') : IO INT TI TM TC w' b O vf vi vm ve i := h.setb (t.mono (by simp))
/-- The name plays no part. -/
theorem IO.name {w : World} {b : Nat} {O : List Nat} {vf vi vm ve : Value} {i : Img} (h : IO INT TI TM TC w b O vf vi vm ve i) (n : List UInt8) : IO INT TI TM TC w b O vf vi vm ve { i with name := n } := h
/-- A new image. -/
theorem IO.new (w : World) (b : Nat) (n : List UInt8) : IO INT TI TM TC w b (ownL b (rowsI INT TI TM TC (.slice none 0 0) (.slice none 0 0) (.slice none 0 0) (.slice none 0 0) (.slice none 0 0) ⟨n, [], [], [], []⟩ [] [] 0 [])) (.slice none 0 0) (.slice none 0 0) (.slice none 0 0) (.slice none 0 0) ⟨n, [], [], [], []⟩ := by
  refine ⟨.slice none 0 0, [], [], 0, [], ⟨fun r hr => ?_, fun i j r s hi hj hne k hk => ?_⟩, rfl, ⟨rfl, by simp, by simp⟩, .inl ⟨rfl, rfl, rfl, rfl, rfl⟩⟩
  · simp only [rowsI, List.mem_cons, List.not_mem_nil, or_false] at hr
    rcases hr with rfl | rfl | rfl | rfl | rfl <;> exact ⟨World.ownsRow_nil _ _ _ _, by simp [Value.ownBlock]⟩
  · have hr := List.mem_of_getElem? hi
    simp only [rowsI, List.mem_cons, List.not_mem_nil, or_false] at hr
    rcases hr with rfl | rfl | rfl | rfl | rfl <;> simp [Value.ownBlock] at hk
theorem ownL_new (b : Nat) (n : List UInt8) : ∀ k ∈ ownL b (rowsI INT TI TM TC (.slice none 0 0) (.slice none 0 0) (.slice none 0 0) (.slice none 0 0) (.slice none 0 0) ⟨n, [], [], [], []⟩ [] [] 0 []), k = b := by
  intro k hk
  simpa [ownL, rowsI, Value.ownBlock] using hk
/-- What an append gives to one row. -/
structure Gr (w w' : World) (E : TypeId) (sz : Nat) (v v' : Value) (n' : Nat) (xs' : List Value) : Prop where
  own : w'.ownsRow 0 E sz v' n' xs'
  g : w.grownBy w' v.ownBlock
  at' : v'.ownBlock = v.ownBlock ∨ v'.ownBlock = some w.heap.size
/-- What the step of an image leaves. -/
def Aft (w w' : World) (b : Nat) (O : List Nat) (vf vi vm ve : Value) (i : Img) : Prop := ∃ O', IO INT TI TM TC w' b O' vf vi vm ve i ∧ Tch O w w' ∧ NewL w O O'
theorem IO.putF {w w' : World} {b : Nat} {O : List Nat} {vf vi vm ve v' : Value} {i : Img} {x : List Int} {n : Nat} (h : IO INT TI TM TC w b O vf vi vm ve i) (hb : b < w.heap.size) (g : Gr w w' INT 1 vf v' n (ints i.fields ++ ints x)) : Aft (INT := INT) (TI := TI) (TM := TM) (TC := TC) w w' b O v' vi vm ve { i with fields := i.fields ++ x } := by
  obtain ⟨vc, icss, mcss, cn, ccs, h1, h2, h3, h4⟩ := h
  have hn : n = (i.fields ++ x).length := by have := g.own.1; simpa using this.symm
  subst hn
  obtain ⟨a1, a2, a3⟩ := h1.grow (j := 0) (r' := ⟨INT, 1, v', (i.fields ++ x).length, ints (i.fields ++ x)⟩) hb rfl g.g (by rw [ints_append]; exact g.own) g.at'
  rw [← h2] at a2 a3
  exact ⟨_, ⟨vc, icss, mcss, cn, ccs, a1, rfl, h3.step a2 a3, h4.step a2 a3⟩, a2, a3⟩
theorem IO.putE {w w' : World} {b : Nat} {O : List Nat} {vf vi vm ve v' : Value} {i : Img} {x : List Int} {n : Nat} (h : IO INT TI TM TC w b O vf vi vm ve i) (hb : b < w.heap.size) (g : Gr w w' INT 1 ve v' n (ints i.exports ++ ints x)) : Aft (INT := INT) (TI := TI) (TM := TM) (TC := TC) w w' b O vf vi vm v' { i with exports := i.exports ++ x } := by
  obtain ⟨vc, icss, mcss, cn, ccs, h1, h2, h3, h4⟩ := h
  have hn : n = (i.exports ++ x).length := by have := g.own.1; simpa using this.symm
  subst hn
  obtain ⟨a1, a2, a3⟩ := h1.grow (j := 3) (r' := ⟨INT, 1, v', (i.exports ++ x).length, ints (i.exports ++ x)⟩) hb rfl g.g (by rw [ints_append]; exact g.own) g.at'
  rw [← h2] at a2 a3
  exact ⟨_, ⟨vc, icss, mcss, cn, ccs, a1, rfl, h3.step a2 a3, h4.step a2 a3⟩, a2, a3⟩
theorem IO.ownF {w : World} {b : Nat} {O : List Nat} {vf vi vm ve : Value} {i : Img} (h : IO INT TI TM TC w b O vf vi vm ve i) : w.ownsRow 0 INT 1 vf i.fields.length (ints i.fields) := by
  obtain ⟨vc, icss, mcss, cn, ccs, h1, _⟩ := h
  exact (h1.own ⟨INT, 1, vf, i.fields.length, ints i.fields⟩ (by simp [rowsI])).1
theorem IO.ownE {w : World} {b : Nat} {O : List Nat} {vf vi vm ve : Value} {i : Img} (h : IO INT TI TM TC w b O vf vi vm ve i) : w.ownsRow 0 INT 1 ve i.exports.length (ints i.exports) := by
  obtain ⟨vc, icss, mcss, cn, ccs, h1, _⟩ := h
  exact (h1.own ⟨INT, 1, ve, i.exports.length, ints i.exports⟩ (by simp [rowsI])).1
/-- The imports' row. -/
theorem IO.ownI {w : World} {b : Nat} {O : List Nat} {vf vi vm ve : Value} {i : Img} (h : IO INT TI TM TC w b O vf vi vm ve i) : ∃ cs, w.ownsRow 0 TI 4 vi i.imports.length cs ∧ vi.ownBlock ≠ some b ∧
    ∀ (w' : World) (v' vp : Value) (x : Imp) (n : Nat), b < w.heap.size → Gr w w' TI 4 vi v' n (cs ++ [.string ⟨x.name.toArray⟩, .int .i64 x.exp, vp, .int .i64 x.result]) → RInts w O vp x.params → Aft (INT := INT) (TI := TI) (TM := TM) (TC := TC) w w' b O vf v' vm ve { i with imports := i.imports ++ [x] } := by
  obtain ⟨vc, icss, mcss, cn, ccs, h1, h2, h3, h4⟩ := h
  have ho := h1.own ⟨TI, 4, vi, i.imports.length, icss.flatten⟩ (by simp [rowsI])
  refine ⟨icss.flatten, ho.1, ho.2, fun w' v' vp x n hb g hp => ?_⟩
  have hl := flatten_length h3.2.1
  have hn : n = (i.imports ++ [x]).length := by
    have := g.own.1
    have h31 := h3.1
    simp at this ⊢
    simp at hl
    omega
  subst hn
  obtain ⟨a1, a2, a3⟩ := h1.grow (j := 1) (r' := ⟨TI, 4, v', (i.imports ++ [x]).length, (icss ++ [[.string ⟨x.name.toArray⟩, .int .i64 x.exp, vp, .int .i64 x.result]]).flatten⟩) hb rfl g.g (by
    have := g.own
    rw [List.flatten_append]
    simpa [RwT.own] using this) g.at'
  rw [← h2] at a2 a3
  refine ⟨_, ⟨vc, _, mcss, cn, ccs, a1, rfl, ⟨by simp [h3.1], fun cs hc => ?_, fun k cs y hc hy => ?_⟩, h4.step a2 a3⟩, a2, a3⟩
  · rcases List.mem_append.1 hc with hc | hc
    · exact h3.2.1 cs hc
    · simp at hc; subst hc; rfl
  · have h31 := h3.1
    by_cases hk : k < icss.length
    · rw [List.getElem?_append_left hk] at hc
      rw [List.getElem?_append_left (by omega)] at hy
      exact (h3.2.2 k cs y hc hy).step a2 a3
    · have hk' : k = icss.length := by
        have := (List.getElem?_eq_some_iff.1 hc).1
        simp at this; omega
      subst hk'
      rw [List.getElem?_append_right (Nat.le_refl _)] at hc
      rw [List.getElem?_append_right (by omega)] at hy
      simp [h31] at hc hy
      subst hc hy
      exact RImp.step ⟨vp, rfl, hp⟩ a2 a3
theorem Tch.step {a b c : World} {O O1 : List Nat} (t : Tch O a b) (u : Tch O1 b c) (hn : NewL a O O1) : Tch O a c :=
  t.trans u (fun _ _ h => h) (fun i hi hx => (hn i hx).elim id (fun h => by omega))
/-- The methods' row: one more. -/
theorem IO.ownM {w : World} {b : Nat} {O : List Nat} {vf vi vm ve : Value} {i : Img} (h : IO INT TI TM TC w b O vf vi vm ve i) : ∃ cs, w.ownsRow 0 TM 4 vm i.methods.length cs ∧ vm.ownBlock ≠ some b ∧
    ∀ (w' : World) (v' vp : Value) (ps : List Int) (r : Int) (n : Nat), b < w.heap.size → Gr w w' TM 4 vm v' n (cs ++ [vp, .int .i64 r, .slice none 0 0, .slice none 0 0]) → RInts w O vp ps → Aft (INT := INT) (TI := TI) (TM := TM) (TC := TC) w w' b O vf vi v' ve { i with methods := i.methods ++ [⟨ps, r, [], []⟩] } := by
  obtain ⟨vc, icss, mcss, cn, ccs, h1, h2, h3, h4⟩ := h
  have ho := h1.own ⟨TM, 4, vm, i.methods.length, mcss.flatten⟩ (by simp [rowsI])
  refine ⟨mcss.flatten, ho.1, ho.2, fun w' v' vp ps r n hb g hp => ?_⟩
  have hml : mcss.length = i.methods.length ∧ ∀ cs ∈ mcss, cs.length = 4 := by
    rcases h4 with ⟨e1, e2, _⟩ | ⟨ms0, m, css, vq, vl, e1, e2, _, _, _, _, e7, e8, _⟩
    · rw [e1, e2]; simp
    · rw [e1, e2]
      refine ⟨by simp [e7], fun cs hc => ?_⟩
      rcases List.mem_append.1 hc with hc | hc
      · exact e8 cs hc
      · simp at hc; subst hc; rfl
  have hl := flatten_length hml.2
  have hn : n = (i.methods ++ [(⟨ps, r, [], []⟩ : Mth)]).length := by
    have := g.own.1
    have h31 := hml.1
    simp at this ⊢
    simp at hl
    omega
  subst hn
  obtain ⟨a1, a2, a3⟩ := h1.grow (j := 2) (r' := ⟨TM, 4, v', (i.methods ++ [(⟨ps, r, [], []⟩ : Mth)]).length, (mcss ++ [[vp, .int .i64 r, .slice none 0 0, .slice none 0 0]]).flatten⟩) hb rfl g.g (by
    have := g.own
    rw [List.flatten_append]
    simpa [RwT.own] using this) g.at'
  obtain ⟨c1, c2⟩ := a1.fresh (j := 4) (r' := ⟨TC, 3, .slice none 0 0, 0, []⟩) (World.ownsRow_nil _ _ _ _) rfl
  have a4 : NewL w (ownL b (rowsI INT TI TM TC vf vi vm ve vc i icss mcss cn ccs)) _ := fun k hk => (c2 k hk).elim (fun h => a3 k h) (fun h => .inr (Nat.le_trans a2.size h))
  have hvc : ∀ k, vc.ownBlock = some k → k ∉ ownL b (((rowsI INT TI TM TC vf vi vm ve vc i icss mcss cn ccs).set 2 ⟨TM, 4, v', (i.methods ++ [(⟨ps, r, [], []⟩ : Mth)]).length, (mcss ++ [[vp, .int .i64 r, .slice none 0 0, .slice none 0 0]]).flatten⟩).set 4 ⟨TC, 3, .slice none 0 0, 0, []⟩) := by
    intro k hk hx
    have hb' := (a1.own ⟨TC, 3, vc, cn, ccs⟩ (by simp [rowsI])).2
    have p0 := a1.apart 4 0 _ _ rfl rfl (by decide) k hk
    have p1 := a1.apart 4 1 _ _ rfl rfl (by decide) k hk
    have p2 := a1.apart 4 2 _ _ rfl rfl (by decide) k hk
    have p3 := a1.apart 4 3 _ _ rfl rfl (by decide) k hk
    have hkb : k ≠ b := fun e => hb' (by rw [hk, e])
    have hgd : ∀ o : Option Nat, o ≠ some k → o.getD b ≠ k := fun o ho => by
      cases o with
      | none => exact fun e => hkb e.symm
      | some q => simpa using ho
    simp only [ownL, rowsI, List.set_cons_succ, List.set_cons_zero, List.map_cons, List.map_nil, List.mem_cons, List.not_mem_nil, or_false] at hx
    rcases hx with hx | hx | hx | hx | hx | hx
    · exact hkb hx
    · exact hgd _ p0 hx.symm
    · exact hgd _ p1 hx.symm
    · exact hgd _ p2 hx.symm
    · exact hgd _ p3 hx.symm
    · exact hkb (by simpa [Value.ownBlock] using hx)
  rw [← h2] at a2 a4
  refine ⟨_, ⟨.slice none 0 0, icss, _, 0, [], c1, rfl, h3.step a2 a4, .inr ⟨i.methods, ⟨ps, r, [], []⟩, mcss, vp, .slice none 0 0, rfl, rfl, rfl, rfl, Src.step hp a2 a4, ⟨.inl ⟨rfl, rfl, rfl⟩⟩, hml.1, hml.2, ?_⟩⟩, a2, a4⟩
  intro k cs x hc hx
  have ho4 := (a1.own ⟨TC, 3, vc, cn, ccs⟩ (by simp [rowsI])).1
  rcases h4 with ⟨e1, e2, _⟩ | ⟨ms0, m, css, vq, vl, e1, e2, e3, e4, e5, e6, e7, e8, e9⟩
  · rw [e1] at hx; simp at hx
  · by_cases hk : k < css.length
    · rw [e2, List.getElem?_append_left hk] at hc
      rw [e1, List.getElem?_append_left (by omega)] at hx
      exact (e9 k cs x hc hx).step a2 a4
    · have hk' : k = css.length := by
        have := (List.getElem?_eq_some_iff.1 hc).1
        rw [e2] at this
        simp at this; omega
      subst hk'
      rw [e2, List.getElem?_append_right (Nat.le_refl _)] at hc
      rw [e1, List.getElem?_append_right (by omega)] at hx
      simp [e7] at hc hx
      subst hc hx
      refine ⟨vq, vl, vc, rfl, Src.step e5 a2 a4, Src.step e6 a2 a4, ?_⟩
      unfold RCode
      subst e3 e4
      exact src_of_owns ho4 _ hvc
/-- The last method: its locals' cell and its code's; what their change leaves. -/
theorem IO.last {w : World} {b : Nat} {O : List Nat} {vf vi vm ve : Value} {i : Img} (h : IO INT TI TM TC w b O vf vi vm ve i) (hb : b < w.heap.size) {ms : List Mth} {m : Mth} (hms : i.methods = ms ++ [m]) :
    ∃ g cap vc, vm = .slice (some ⟨g, 0, none⟩) i.methods.length cap ∧ g < w.heap.size ∧ g ≠ b ∧ w.cell? ⟨g, ms.length * 4 + 3, none⟩ = some vc ∧ (∀ j, w.frozen? ⟨g, j, none⟩ = false) ∧ (∃ u, w.cell? ⟨g, ms.length * 4 + 2, none⟩ = some u) ∧ vc.ownBlock ≠ some g ∧ vc.ownBlock ≠ some b ∧ w.ownsRow 0 TC 3 vc m.code.length (codeCells m.code) ∧
    (∀ (w' : World) (v' : Value) (x : Ins) (n : Nat), Gr w w' TC 3 vc v' n (codeCells m.code ++ x.cells) → Aft (INT := INT) (TI := TI) (TM := TM) (TC := TC) w (w'.setCell ⟨g, ms.length * 4 + 3, none⟩ v') b O vf vi vm ve { i with methods := ms ++ [{ m with code := m.code ++ [x] }] }) ∧
    (∀ (vl : Value) (l : List Int), RInts w O vl l → Aft (INT := INT) (TI := TI) (TM := TM) (TC := TC) w (w.setCell ⟨g, ms.length * 4 + 2, none⟩ vl) b O vf vi vm ve { i with methods := ms ++ [{ m with locals := l }] }) := by
  obtain ⟨vc, icss, mcss, cn, ccs, h1, h2, h3, h4⟩ := h
  rcases h4 with ⟨e1, _⟩ | ⟨ms0, m0, css, vp, vl, e1, e2, e3, e4, e5, e6, e7, e8, e9⟩
  · rw [e1] at hms; simp at hms
  · rw [hms] at e1
    obtain ⟨rfl, e1'⟩ := List.append_inj' e1 rfl
    simp at e1'
    subst e1' e2 e3 e4
    have hoM : w.ownsRow 0 TM 4 vm i.methods.length (css ++ [[vp, .int .i64 m.result, vl, vc]]).flatten ∧ vm.ownBlock ≠ some b := h1.own ⟨TM, 4, vm, i.methods.length, (css ++ [[vp, .int .i64 m.result, vl, vc]]).flatten⟩ (by simp [rowsI])
    have hoC : w.ownsRow 0 TC 3 vc m.code.length (codeCells m.code) ∧ vc.ownBlock ≠ some b := h1.own ⟨TC, 3, vc, m.code.length, codeCells m.code⟩ (by simp [rowsI])
    have hap : ∀ k, vc.ownBlock = some k → vm.ownBlock ≠ some k := h1.apart 4 2 _ _ rfl rfl (by decide)
    have hml : i.methods.length = ms.length + 1 := by rw [hms]; simp
    have hfl := flatten_length e8
    have hoM' : w.ownsRow 0 TM 4 vm i.methods.length (css ++ [[vp, .int .i64 m.result, vl, vc]]).flatten := hoM.1
    rcases hoM'.2 with ⟨_, hz⟩ | ⟨g, cap, cur, hv, _, hg, _⟩
    · omega
    subst hv
    have hgb : g ≠ b := fun e => hoM.2 (by simp [Value.ownBlock, e])
    have hgl : g < w.heap.size := heap_lt hg
    have hcat : ∀ j < 4, w.cell? ⟨g, ms.length * 4 + j, none⟩ = ([vp, .int .i64 m.result, vl, vc] : List Value)[j]? := by
      intro j hj
      rw [hoM.1.cellAt (ms.length * 4 + j) (by omega), List.flatten_append, List.getElem?_append_right (by omega)]
      have : ms.length * 4 + j - css.flatten.length = j := by omega
      rw [this]; simp
    have hne : vc.ownBlock ≠ some g := fun e => hap g e (by simp [Value.ownBlock])
    refine ⟨g, cap, vc, rfl, hgl, hgb, by rw [hcat 3 (by omega)]; rfl, fun j => hoM.1.frozenAt j, ⟨vl, by rw [hcat 2 (by omega)]; rfl⟩, hne, hoC.2, hoC.1, ?_, ?_⟩
    · intro w' v' x n gr
      have hn : n = (m.code ++ [x]).length := by
        have h7 := gr.own.1
        have h8 := hoC.1.1
        simp [Ins.cells] at h7 h8 ⊢
        omega
      subst hn
      obtain ⟨a1, a2, a3⟩ := h1.grow (j := 4) (r' := ⟨TC, 3, v', (m.code ++ [x]).length, codeCells (m.code ++ [x])⟩) hb rfl gr.g (by
        have := gr.own
        simpa [RwT.own, codeCells] using this) gr.at'
      have hoM1 := (a1.own ⟨TM, 4, .slice (some ⟨g, 0, none⟩) i.methods.length cap, i.methods.length, (css ++ [[vp, .int .i64 m.result, vl, vc]]).flatten⟩ (by simp [rowsI])).1
      have hst := World.ownsRow.stored hoM1 (ms.length * 4 + 3) v'
      have hfe : (css ++ [[vp, .int .i64 m.result, vl, vc]]).flatten.set (ms.length * 4 + 3) v' = (css ++ [[vp, .int .i64 m.result, vl, v']]).flatten := by
        rw [List.flatten_append, List.flatten_append, List.set_append_right _ _ (by omega)]
        have : ms.length * 4 + 3 - css.flatten.length = 3 := by omega
        rw [this]; rfl
      rw [hfe] at hst
      have hlen : i.methods.length = (ms ++ [{ m with code := m.code ++ [x] }]).length := by rw [hml]; simp
      obtain ⟨b1, b2, b3⟩ := a1.grow (j := 2) (r' := ⟨TM, 4, .slice (some ⟨g, 0, none⟩) i.methods.length cap, (ms ++ [{ m with code := m.code ++ [x] }]).length, (css ++ [[vp, .int .i64 m.result, vl, v']]).flatten⟩) (Nat.lt_of_lt_of_le hb a2.size) rfl hst.2 (by rw [← hlen]; exact hst.1) (.inl rfl)
      have t := a2.step b2 a3
      have hnl := a3.trans b3 a2.size
      rw [← h2] at t hnl
      refine ⟨_, ⟨v', icss, _, _, _, b1, rfl, h3.step t hnl, .inr ⟨ms, _, css, vp, vl, rfl, rfl, rfl, rfl, Src.step e5 t hnl, Src.step e6 t hnl, e7, e8, fun k cs x hc hx => (e9 k cs x hc hx).step t hnl⟩⟩, t, hnl⟩
    · intro vl' l hl
      have hst := World.ownsRow.stored hoM.1 (ms.length * 4 + 2) vl'
      have hfe : (css ++ [[vp, .int .i64 m.result, vl, vc]]).flatten.set (ms.length * 4 + 2) vl' = (css ++ [[vp, .int .i64 m.result, vl', vc]]).flatten := by
        rw [List.flatten_append, List.flatten_append, List.set_append_right _ _ (by omega)]
        have : ms.length * 4 + 2 - css.flatten.length = 2 := by omega
        rw [this]; rfl
      rw [hfe] at hst
      have hlen : i.methods.length = (ms ++ [{ m with locals := l }]).length := by rw [hml]; simp
      obtain ⟨b1, b2, b3⟩ := h1.grow (j := 2) (r' := ⟨TM, 4, .slice (some ⟨g, 0, none⟩) i.methods.length cap, (ms ++ [{ m with locals := l }]).length, (css ++ [[vp, .int .i64 m.result, vl', vc]]).flatten⟩) hb rfl hst.2 (by rw [← hlen]; exact hst.1) (.inl rfl)
      rw [← h2] at b2 b3
      exact ⟨_, ⟨vc, icss, _, _, _, b1, rfl, h3.step b2 b3, .inr ⟨ms, _, css, vp, vl', rfl, rfl, rfl, rfl, Src.step e5 b2 b3, Src.step hl b2 b3, e7, e8, fun k cs x hc hx => (e9 k cs x hc hx).step b2 b3⟩⟩, b2, b3⟩
/-- The image reads as data. -/
theorem IO.read {w : World} {b : Nat} {O : List Nat} {vf vi vm ve : Value} {i : Img} (h : IO INT TI TM TC w b O vf vi vm ve i) : RImg w [] [str i.name, vf, vi, vm, ve] i := by
  obtain ⟨vc, icss, mcss, cn, ccs, h1, h2, h3, h4⟩ := h
  have hoF := (h1.own ⟨INT, 1, vf, i.fields.length, ints i.fields⟩ (by simp [rowsI])).1
  have hoE := (h1.own ⟨INT, 1, ve, i.exports.length, ints i.exports⟩ (by simp [rowsI])).1
  have hoI := (h1.own ⟨TI, 4, vi, i.imports.length, icss.flatten⟩ (by simp [rowsI])).1
  have hoM := (h1.own ⟨TM, 4, vm, i.methods.length, mcss.flatten⟩ (by simp [rowsI])).1
  have hoC := (h1.own ⟨TC, 3, vc, cn, ccs⟩ (by simp [rowsI])).1
  refine ⟨vf, vi, vm, ve, rfl, src_of_owns hoF [] (by simp), ⟨icss, h3.1, h3.2.1, src_of_owns hoI [] (by simp), fun k cs x hc hx => ?_⟩, ?_, src_of_owns hoE [] (by simp)⟩
  · obtain ⟨vp, e, hp⟩ := h3.2.2 k cs x hc hx
    exact ⟨vp, e, Src.mono hp (by simp)⟩
  · rcases h4 with ⟨e1, e2, _⟩ | ⟨ms0, m, css, vp, vl, e1, e2, e3, e4, e5, e6, e7, e8, e9⟩
    · refine ⟨mcss, by rw [e1, e2]; rfl, by rw [e2]; simp, src_of_owns hoM [] (by simp), fun k cs x hc _ => ?_⟩
      rw [e2] at hc; simp at hc
    · refine ⟨mcss, by rw [e1, e2]; simp [e7], fun cs hc => ?_, src_of_owns hoM [] (by simp), fun k cs x hc hx => ?_⟩
      · rw [e2] at hc
        rcases List.mem_append.1 hc with hc | hc
        · exact e8 cs hc
        · simp at hc; subst hc; rfl
      · by_cases hk : k < css.length
        · rw [e2, List.getElem?_append_left hk] at hc
          rw [e1, List.getElem?_append_left (by omega)] at hx
          obtain ⟨q1, q2, q3, q, r1, r2, r3⟩ := e9 k cs x hc hx
          exact ⟨q1, q2, q3, q, Src.mono r1 (by simp), Src.mono r2 (by simp), Src.mono r3 (by simp)⟩
        · have hk' : k = css.length := by
            have := (List.getElem?_eq_some_iff.1 hc).1
            rw [e2] at this
            simp at this; omega
          subst hk'
          rw [e2, List.getElem?_append_right (Nat.le_refl _)] at hc
          rw [e1, List.getElem?_append_right (by omega)] at hx
          simp [e7] at hc hx
          subst hc hx
          refine ⟨vp, vl, vc, rfl, Src.mono e5 (by simp), Src.mono e6 (by simp), ?_⟩
          unfold RCode
          subst e3 e4
          exact src_of_owns hoC _ (by simp)
end
end Go.Tcn
namespace Go.Proofs.YteebapopeaafhaaDoor
open Go.RowKit Go.Tcn
set_option linter.unusedVariables false
set_option linter.unusedSimpArgs false
set_option maxRecDepth 100000 in
set_option maxHeartbeats 4000000 in
theorem tx_KindName (w : World) (k : Int) : Calls Tryd.prog 14 #[.int .i64 k] w fun e w' => e = .returned (.string ⟨(kindNm k).toArray⟩) ∧ w = w' := by
  go_enter Tryd.func14, Tryd.ntmps14
  go_wp2
  all_goals
    go_ret
    refine ⟨?_, rfl⟩
    first | (simp_all [kindNm]; done) | (simp_all [kindNm]; decide +kernel) | (simp_all [kindNm]; rfl)
theorem kindW_of (k : Int) (w : Wd) (h : 0 ≤ k ∧ k ≤ 4) (e : kindNm k = w) : kindW w = k := by
  rw [← e]; exact kind_nm k h
theorem kindW_no (w : Wd) (h : ∀ k : Int, 0 ≤ k → k < 5 → kindNm k ≠ w) : kindW w = -1 := by
  have h0 := h 0 (by omega) (by omega)
  have h1 := h 1 (by omega) (by omega)
  have h2 := h 2 (by omega) (by omega)
  have h3 := h 3 (by omega) (by omega)
  have h4 := h 4 (by omega) (by omega)
  simp only [kindNm] at h0 h1 h2 h3 h4
  simp at h0 h1 h2 h3 h4
  unfold kindW
  rw [if_neg (Ne.symm h0), if_neg (Ne.symm h1), if_neg (Ne.symm h2), if_neg (Ne.symm h3), if_neg (Ne.symm h4)]
set_option maxRecDepth 100000 in
set_option maxRecDepth 100000 in
set_option maxHeartbeats 4000000 in
theorem tx_Kind (w : World) (s : Wd) : Calls Tryd.prog 11 #[.string ⟨s.toArray⟩] w fun e w' => e = .returned (.int .i64 (kindW s)) ∧ w = w' := by
  go_enter Tryd.func11, Tryd.ntmps11
  go_wp2_with fail
  go_loopw [3] (fun i wz => ∃ k : Int, 0 ≤ k ∧ k ≤ 5 ∧ i = .int .i64 k ∧ Hid (∀ j : Int, 0 ≤ j → j < k → kindNm j ≠ s) ∧ w = wz) (fun i _ => 5 - (intOf i).toNat)
  case atStart => exact ⟨0, by omega, by omega, rfl, Lib.hid (by intro j h1 h2; omega), rfl⟩
  case round =>
    obtain ⟨k, hk0, hk1, rfl, HF, rfl⟩ := hrel
    by_cases hk : k ≤ 4
    · go_wp2_with fail
      refine (tx_KindName _ k).mono ?_
      rintro e w1 ⟨rfl, rfl⟩
      by_cases hs : kindNm k = s
      · have hr := kindW_of k s ⟨hk0, hk⟩ hs
        have hse : (kindNm k == s) = true := by simp [hs]
        clear hs
        go_wp2_with fail
        go_ret
        first | exact ⟨by rw [hr]; rfl, rfl⟩ | exact ⟨by rw [hr], rfl⟩ | exact ⟨by simp only [hr]; rfl, rfl⟩ | (refine ⟨?_, rfl⟩; simp only [hr]; done) | rfl | exact ⟨rfl, rfl⟩
      · have hse : (kindNm k == s) = false := by simp [hs]
        have HS := Lib.hid hs; clear hs
        go_wp2_with fail
        go_roundw
        all_goals first | exact ⟨⟨k + 1, by omega, by omega, rfl, Lib.hid (fun j h1 h2 => if e : j = k then by rw [e]; exact HS.out else HF.out j h1 (by omega)), trivial⟩, by simp [intOf]; omega⟩ | exact ⟨k + 1, by omega, by omega, rfl, Lib.hid (fun j h1 h2 => if e : j = k then by rw [e]; exact HS.out else HF.out j h1 (by omega)), by first | rfl | trivial⟩ | (simp [intOf]; omega)
    · have hr := kindW_no s (by have := HF.out; intro j h1 h2; exact this j h1 (by omega))
      go_wp2_with fail
      go_ret
      first | exact ⟨by rw [hr]; rfl, rfl⟩ | exact ⟨by rw [hr], rfl⟩ | exact ⟨by simp only [hr]; rfl, rfl⟩ | (refine ⟨?_, rfl⟩; simp only [hr]; done) | rfl | exact ⟨rfl, rfl⟩
end Go.Proofs.YteebapopeaafhaaDoor
namespace Go.Tcn
open Go.RowKit
set_option linter.unusedVariables false
set_option linter.unusedSimpArgs false
theorem utf8_enc (r : Int) : Utf8.encode r = ⟨(Lib.encodeRune r).toArray⟩ := by
  have key : (Utf8.encode r).data.toList = Lib.encodeRune r := by
    unfold Utf8.encode Lib.encodeRune Lib.encodeRuneZ Utf8.valid Utf8.runeError
    by_cases h1 : 0 ≤ r ∧ r ≤ 127
    · have hv : ((decide (0 ≤ r) && decide (r < 55296)) || (decide (57344 ≤ r) && decide (r ≤ 1114111))) = true := by simp; omega
      rw [if_pos h1]
      simp only [hv, if_true]
      rw [if_pos (by omega)]
      simp
    rw [if_neg h1]
    by_cases h2 : 128 ≤ r ∧ r ≤ 2047
    · have hv : ((decide (0 ≤ r) && decide (r < 55296)) || (decide (57344 ≤ r) && decide (r ≤ 1114111))) = true := by simp; omega
      rw [if_pos h2]
      simp only [hv, if_true]
      rw [if_neg (by omega), if_pos (by omega)]
      simp only [List.map_cons, List.map_nil]
      congr 1
      · show UInt8.ofNat _ = UInt8.ofNat _
        congr 1; omega
      · congr 1
        show UInt8.ofNat _ = UInt8.ofNat _
        congr 1; omega
    rw [if_neg h2]
    by_cases h3 : (2048 ≤ r ∧ r < 55296) ∨ (57343 < r ∧ r ≤ 65535)
    · have hv : ((decide (0 ≤ r) && decide (r < 55296)) || (decide (57344 ≤ r) && decide (r ≤ 1114111))) = true := by simp; omega
      rw [if_pos h3]
      simp only [hv, if_true]
      rw [if_neg (by omega), if_neg (by omega), if_pos (by omega)]
      simp only [List.map_cons, List.map_nil]
      congr 1
      · show UInt8.ofNat _ = UInt8.ofNat _
        congr 1; omega
      · congr 1
        · show UInt8.ofNat _ = UInt8.ofNat _
          congr 1; omega
        · congr 1
          show UInt8.ofNat _ = UInt8.ofNat _
          congr 1; omega
    rw [if_neg h3]
    by_cases h4 : 65536 ≤ r ∧ r ≤ 1114111
    · have hv : ((decide (0 ≤ r) && decide (r < 55296)) || (decide (57344 ≤ r) && decide (r ≤ 1114111))) = true := by simp; omega
      rw [if_pos h4]
      simp only [hv, if_true]
      rw [if_neg (by omega), if_neg (by omega), if_neg (by omega)]
      simp only [List.map_cons, List.map_nil]
      congr 1
      · show UInt8.ofNat _ = UInt8.ofNat _
        congr 1; omega
      · congr 1
        · show UInt8.ofNat _ = UInt8.ofNat _
          congr 1; omega
        · congr 1
          · show UInt8.ofNat _ = UInt8.ofNat _
            congr 1; omega
          · congr 1
            show UInt8.ofNat _ = UInt8.ofNat _
            congr 1; omega
    rw [if_neg h4]
    have hv : ((decide (0 ≤ r) && decide (r < 55296)) || (decide (57344 ≤ r) && decide (r ≤ 1114111))) = false := by
      simp only [Bool.or_eq_false_iff, Bool.and_eq_false_iff, decide_eq_false_iff_not]; omega
    simp only [hv, if_neg (Bool.false_ne_true)]
    decide
  apply ByteArray.ext
  rw [← key]
theorem enc_len (r : Int) : (Lib.encodeRune r).length ≤ 4 := by
  have := (Lib.encodeRuneZ_length r).2
  unfold Lib.encodeRune
  simpa using this
/-- A blank behind a line plays no part. -/
theorem spT_blank : ∀ (f : Nat) (l w : Wd), l.length ≤ f → spT (f + 1) (l ++ [32]) w = spT f l w
  | f, [], w, h => by
    have hd : Lib.decodeL ([] ++ [32]) = (32, 1) := by decide
    rw [spT_nil]
    have : spT (f + 1) ([] ++ [32]) w = flW w ++ spT f [] [] := by
      rw [spT]
      rw [if_neg (by simp), hd, if_neg (by decide), if_pos rfl]
      simp
    rw [this, spT_nil]; simp [flW]
  | 0, c :: l, w, h => by simp at h
  | f + 1, c :: l, w, h => by
    have hne : (c :: l) ≠ [] := by simp
    have hd : Lib.decodeL (c :: l ++ [32]) = Lib.decodeL (c :: l) := decode_ctx hne (.inr (by decide))
    have hw := Lib.decodeL_width (c :: l)
    have hle := Lib.decodeL_le (c :: l) hne
    have hdr : (c :: l ++ [32]).drop (Lib.decodeL (c :: l)).2 = (c :: l).drop (Lib.decodeL (c :: l)).2 ++ [32] := by
      rw [List.drop_append_of_le_length hle]
    have hlen : ((c :: l).drop (Lib.decodeL (c :: l)).2).length ≤ f := by rw [List.length_drop]; omega
    have e1 : spT (f + 1 + 1) (c :: l ++ [32]) w = if (c :: l ++ [32]) = [] then flW w else if (Lib.decodeL (c :: l ++ [32])).1 = 35 then flW w else if (Lib.decodeL (c :: l ++ [32])).1 = 32 then flW w ++ spT (f + 1) ((c :: l ++ [32]).drop (Lib.decodeL (c :: l ++ [32])).2) []
      else spT (f + 1) ((c :: l ++ [32]).drop (Lib.decodeL (c :: l ++ [32])).2) (w ++ Lib.encodeRune ((Lib.decodeL (c :: l ++ [32])).1 : Int)) := rfl
    have e2 : spT (f + 1) (c :: l) w = if (c :: l) = [] then flW w else if (Lib.decodeL (c :: l)).1 = 35 then flW w else if (Lib.decodeL (c :: l)).1 = 32 then flW w ++ spT f ((c :: l).drop (Lib.decodeL (c :: l)).2) []
      else spT f ((c :: l).drop (Lib.decodeL (c :: l)).2) (w ++ Lib.encodeRune ((Lib.decodeL (c :: l)).1 : Int)) := rfl
    rw [e1, e2, if_neg (by simp), if_neg hne, hd, hdr, spT_blank f _ [] hlen, spT_blank f _ _ hlen]
theorem spT_len : ∀ (f : Nat) (l w : Wd), (spT f l w).length ≤ l.length + 1
  | 0, l, w => by simp [spT, flW]; split <;> simp
  | f + 1, l, w => by
    rw [spT]
    split
    · simp [flW]; split <;> simp
    · rename_i hne
      have hle := Lib.decodeL_le l hne
      have hw := Lib.decodeL_width l
      split
      · simp [flW]; split <;> simp
      · split
        · have := spT_len f (l.drop (Lib.decodeL l).2) []
          have h1 : (flW w).length ≤ 1 := by unfold flW; split <;> simp
          rw [List.length_append]
          rw [List.length_drop] at this
          omega
        · have := spT_len f (l.drop (Lib.decodeL l).2) (w ++ Lib.encodeRune ((Lib.decodeL l).1 : Int))
          rw [List.length_drop] at this
          omega
/-- Words as a slice's cells. -/
def strs (ws : List Wd) : List Value := ws.map fun w => .string ⟨w.toArray⟩
@[simp] theorem strs_length (ws : List Wd) : (strs ws).length = ws.length := by simp [strs]
theorem strs_append (a b : List Wd) : strs (a ++ b) = strs a ++ strs b := by simp [strs]
theorem one_str (w : Wd) : ∀ u ∈ [Value.string ⟨w.toArray⟩], u.oneCell' = true := by intro u hu; simp at hu; subst hu; rfl
theorem strcat (a b : Wd) : (⟨a.toArray⟩ : ByteArray) ++ ⟨b.toArray⟩ = ⟨(a ++ b).toArray⟩ := by
  apply ByteArray.ext
  simp
/-- A row of a call's own that is new. -/
def NewRow (w w' : World) (E : TypeId) (sz : Nat) (v : Value) (n : Nat) (xs : List Value) : Prop := w'.ownsRow 0 E sz v n xs ∧ ∀ k, v.ownBlock = some k → w.heap.size ≤ k
theorem NewRow.nil (w w' : World) (E : TypeId) (sz : Nat) : NewRow w w' E sz (.slice none 0 0) 0 [] := ⟨World.ownsRow_nil _ _ _ _, by simp [Value.ownBlock]⟩
theorem NewRow.tch {w w' w'' : World} {E : TypeId} {sz : Nat} {v : Value} {n : Nat} {xs : List Value} (h : NewRow w w' E sz v n xs) (t : Tch [] w' w'') : NewRow w w'' E sz v n xs := ⟨ownsRow_tch h.1 t (by simp), h.2⟩
theorem NewRow.of {w w' wr : World} {E : TypeId} {sz : Nat} {v v' : Value} {xs' : List Value} {m : Nat} (h : ∀ k, v.ownBlock = some k → w.heap.size ≤ k) (hs : w.heap.size ≤ wr.heap.size) (ho : w'.ownsRow 0 E sz v' m xs') (hat : v'.ownBlock = v.ownBlock ∨ v'.ownBlock = some wr.heap.size) : NewRow w w' E sz v' m xs' :=
  ⟨ho, fun k hk => by
    rcases hat with e | e
    · exact h k (by rw [← e]; exact hk)
    · rw [e] at hk; simp at hk; omega⟩
theorem NewRow.src {w w' : World} {E : TypeId} {sz : Nat} {v : Value} {n : Nat} {xs : List Value} (h : NewRow w w' E sz v n xs) (L : List Nat) (hL : ∀ k ∈ L, k < w.heap.size) : Src w' L v n xs := src_of_owns h.1 L (fun k hk hx => by have := h.2 k hk; have := hL k hx; omega)
theorem Tch.grew {w wr w' : World} {v : Value} (t : Tch [] w wr) (g : wr.grownBy w' v.ownBlock) (h : ∀ k, v.ownBlock = some k → w.heap.size ≤ k) : Tch [] w w' := t.grown g (fun k hk => .inr (h k hk))
/-- An iterator that moves on. -/
theorem Tch.iter {a w : World} (h : Tch [] a w) {k : Nat} (hk : a.heap.size ≤ k) (s : ByteArray) (pos : Nat) : Tch [] a (w.iterAt k s pos) := Tch.of_below (Lib.below_iterAt h.below hk s pos) []
theorem own_not_iter {w : World} {E : TypeId} {sz : Nat} {v : Value} {n : Nat} {xs : List Value} (h : w.ownsRow 0 E sz v n xs) {k : Nat} {s : ByteArray} {pos : Nat} (hk : w.heap[k]? = some (.stringIter s pos)) : v.ownBlock ≠ some k := by
  intro e
  rcases h.2 with ⟨rfl, _⟩ | ⟨g, cap, cur, rfl, _, hg, _⟩
  · simp [Value.ownBlock] at e
  · simp [Value.ownBlock] at e
    subst e
    rw [hk] at hg; cases hg
theorem NewRow.iter {w w' : World} {E : TypeId} {sz : Nat} {v : Value} {n : Nat} {xs : List Value} (h : NewRow w w' E sz v n xs) {k : Nat} {s : ByteArray} {pos : Nat} (hk : w'.heap[k]? = some (.stringIter s pos)) (pos' : Nat) : NewRow w (w'.iterAt k s pos') E sz v n xs := by
  have hne := own_not_iter h.1 hk
  refine ⟨ownsRow_tch (L := [k]) h.1 ⟨rfl, rfl, rfl, by rw [Lib.iterAt_size]; exact Nat.le_refl _, fun i _ hi => Lib.iterAt_other _ _ _ _ _ (by simpa using hi)⟩ (fun i hi hx => ?_), h.2⟩
  simp at hx; subst hx; exact hne hi
theorem iter_grown {w w' : World} {row : Option Nat} (g : w.grownBy w' row) {k : Nat} {o : Obj} (hk : w.heap[k]? = some o) (hne : row ≠ some k) : w'.heap[k]? = some o := by
  rw [g.block k (heap_lt hk) (fun e => hne e.symm)]; exact hk
/-- What the kinds of words come to. -/
def KindsTo (E : TypeId) (w w' : World) (ws : List Wd) (e : Ending) : Prop := match kindsP UU ws with
  | none => e = .returned (.tuple #[.slice none 0 0, .bool false])
  | some l => ∃ v, e = .returned (.tuple #[v, .bool true]) ∧ NewRow w w' E 1 v l.length (ints l)
theorem kinds_len : ∀ (ws : List Wd) (l : List Int), kindsP UU ws = some l → l.length = ws.length
  | [], l, h => by simp only [kindsP, Option.some.injEq] at h; rw [← h]; rfl
  | w :: ws, l, h => by
    rw [kindsP] at h
    split at h
    · cases h
    · cases hk : kindsP UU ws with
      | none => rw [hk] at h; cases h
      | some m =>
        rw [hk] at h
        simp only [Option.map_some, Option.some.injEq] at h
        rw [← h]
        simp [kinds_len ws m hk]
end Go.Tcn
namespace Go.Proofs.YteebapopeaafhaaDoor
open Go.RowKit Go.Tcn
set_option linter.unusedVariables false
set_option linter.unusedSimpArgs false
theorem info_strT : (Tryd.prog.info? 9).map (fun i => (i.zero, i.size, i.bytes)) = some (some (.string ⟨#[]⟩), 1, 16) := by kernel_rfl
theorem info_intT : (Tryd.prog.info? 3).map (fun i => (i.zero, i.size, i.bytes)) = some (some (.int .i64 0), 1, 8) := by kernel_rfl
set_option maxRecDepth 100000 in
set_option maxHeartbeats 4000000 in
theorem tx_kinds (w : World) (L : List Nat) (a0 : Option Addr) (c0 : Nat) (ws : List Wd) (h : Src w L (.slice a0 ws.length c0) ws.length (strs ws)) (hl : ws.length ≤ 1099511627776) :
    Calls Tryd.prog 61 #[.slice a0 ws.length c0] w fun e w' => Tch [] w w' ∧ KindsTo 3 w w' ws e := by
  obtain ⟨i0, hi, hz0, hz1, hz2⟩ := info_parts info_intT
  go_enter Tryd.func61, Tryd.ntmps61
  go_wp2_with fail
  go_loopw [4, 10] (fun o i wz => ∃ (k : Nat) (ks : List Int) (v : Value), k ≤ ws.length ∧ o = v ∧ i = .int .i64 k ∧ ks.length = k ∧ kindsP UU ws = (kindsP UU (ws.drop k)).map (ks ++ ·) ∧ NewRow w wz 3 1 v ks.length (ints ks) ∧ Tch [] w wz) (fun _ i _ => ws.length - (intOf i).toNat)
  case atStart => exact ⟨0, [], .slice none 0 0, by omega, rfl, rfl, rfl, by simp, NewRow.nil _ _ _ _, Tch.refl _ _⟩
  case round =>
    obtain ⟨k, ks, v, hk1, rfl, rfl, hkl, hkd, hv, ht⟩ := hrel
    by_cases hk : k < ws.length
    · obtain ⟨ad, rfl, _, _, hq⟩ := Src.at (h.tch ht (by simp)) (j := k) (by simpa using hk)
      have hq0 : wr.cell? (ad.add k) = some (.string ⟨ws[k].toArray⟩) := by simpa [strs] using hq
      clear hq
      have hks : kindsP UU (ws.drop k) = if kindW ws[k] ≤ 0 then none else (kindsP UU (ws.drop (k + 1))).map (kindW ws[k] :: ·) := by
        rw [List.drop_eq_getElem_cons hk]; rfl
      rw [hks] at hkd
      clear hks
      generalize ws[k] = wd at *
      have HK := Lib.hid hkd; clear hkd
      have HL := Lib.hid hkl; clear hkl
      go_wp2_with fail
      refine (tx_Kind wr wd).mono ?_
      rintro e w1 ⟨rfl, rfl⟩
      by_cases hz : kindW wd ≤ 0
      · have HZ := Lib.hid hz
        have hd : decide (kindW wd ≤ 0) = true := decide_eq_true hz
        clear hz
        go_wp2_with fail
        go_ret2
        refine ⟨ht, ?_⟩
        unfold KindsTo
        rw [HK.out, if_pos HZ.out]
        rfl
      · have HZ := Lib.hid hz
        have hd : decide (kindW wd ≤ 0) = false := decide_eq_false hz
        clear hz
        have hown := hv.1
        have hbnd : ks.length + 1 ≤ 9223372036854775807 ∧ (ks.length + 1) * 8 ≤ 140737488355328 := by have := HL.out; omega
        have hsz := ht.size
        go_wp2_with (first | (at_builtin; refine wpList_append_any _ rfl (.tmp 18) (.tmp 20) 22 rfl 3 i0 (.int .i64 0) 1 8 Tryd.underlying22 hi hz0 hz1 hz2 rfl (by decide) _ ks.length (ints ks) rfl (hown.alloc _) [] _ 1 [.int .i64 (kindW wd)] rfl (src_new wr _ [] #[.int .i64 (kindW wd)] _ 1 1 (Tch.refl [] _) (by simp)) rfl (by intro u hu; simp at hu; subst hu; rfl) hbnd ?_; intro ao cap w2 hown2 hgrow hat) | fail)
        have ht2 : Tch [] w w2 := (ht.alloc _).grew hgrow hv.2
        have hv2 := NewRow.of (w := w) hv.2 (by simp; omega) hown2 hat
        go_roundw
        case rel =>
          refine ⟨k + 1, ks ++ [kindW wd], _, by omega, rfl, by go_num, by simp [HL.out], ?_, by rw [ints_append, List.length_append]; exact hv2, ht2⟩
          rw [HK.out, if_neg (by have := HZ.out; omega)]
          cases kindsP UU (ws.drop (k + 1)) <;> simp
        case measure => simp [intOf]; omega
    · have hn : kindsP UU ws = some ks := by
        rw [hkd, List.drop_eq_nil_of_le (by omega)]; simp [kindsP]
      clear hkd
      have HN := Lib.hid hn; clear hn
      have HL := Lib.hid hkl; clear hkl
      go_wp2_with fail
      go_ret2
      refine ⟨ht, ?_⟩
      unfold KindsTo
      rw [HN.out]
      exact ⟨_, rfl, hv⟩
set_option maxRecDepth 100000 in
set_option maxHeartbeats 4000000 in
theorem tx_split (w : World) (l : Wd) (hl : l.length ≤ 1099511627776) :
    Calls Tryd.prog 17 #[.string ⟨l.toArray⟩] w fun e w' => ∃ v, e = .returned v ∧ NewRow w w' 9 1 v (spT l.length l []).length (strs (spT l.length l [])) ∧ Tch [] w w' := by
  obtain ⟨i0, hi, hz0, hz1, hz2⟩ := info_parts info_strT
  have hb32 : ¬ 9223372036854775807 < l.length + 1 := by omega
  go_enter Tryd.func17, Tryd.ntmps17
  go_wp2_with fail
  obtain ⟨S, hS⟩ : ∃ S : ByteArray, S = ⟨l.toArray⟩ ++ ⟨#[32]⟩ := ⟨_, rfl⟩
  have hSd : S.data.toList = l ++ [32] := by rw [hS]; simp
  have hSz : S.size = l.length + 1 := by
    have : S.data.toList.length = S.size := by simp
    rw [hSd] at this
    simpa using this.symm
  rw [← hS]
  clear hS
  have hsp := spT_blank l.length l [] (Nat.le_refl _)
  have hfin : ∀ (cur : Wd) (ws : List Wd) (v : Value) (W : World), spT l.length l [] = ws ++ flW cur → NewRow w W 9 1 v ws.length (strs ws) → Tch [] w W → ws.length ≤ 1099511627790 →
     ∀ (v' : Value) (W' : World), (cur = [] → v' = v ∧ W' = W) → (cur ≠ [] → NewRow w W' 9 1 v' (ws.length + 1) (strs ws ++ [.string ⟨cur.toArray⟩]) ∧ Tch [] w W') → NewRow w W' 9 1 v' (spT l.length l []).length (strs (spT l.length l [])) ∧ Tch [] w W' := by
    intro cur ws v W h1 h2 h3 _ v' W' h5 h6
    by_cases hc : cur = []
    · obtain ⟨rfl, rfl⟩ := h5 hc
      rw [h1, hc]
      simp only [flW, if_true, List.append_nil]
      exact ⟨h2, h3⟩
    · obtain ⟨h7, h8⟩ := h6 hc
      refine ⟨?_, h8⟩
      rw [h1]
      simp only [flW, if_neg hc]
      rw [List.length_append, strs_append]
      exact h7
  have HF := Lib.hid hfin
  clear hfin
  go_loopw [3, 4] (fun o x wz => ∃ (pos fuel : Nat) (ws : List Wd) (cur : Wd) (v : Value), wz.heap[w.heap.size]? = some (.stringIter S pos) ∧ pos ≤ l.length + 4 ∧ l.length + 1 ≤ pos + fuel ∧ Hid (spT l.length l [] = ws ++ spT fuel ((l ++ [32]).drop pos) cur) ∧ o = v ∧ x = .string ⟨cur.toArray⟩ ∧ cur.length ≤ 4 * pos ∧ ws.length ≤ pos ∧ NewRow w wz 9 1 v ws.length (strs ws) ∧ Tch [] w wz) (fun _ _ wz => l.length + 5 - wz.iterPos w.heap.size)
  case atStart => exact ⟨0, l.length + 1, [], [], .slice none 0 0, World.iter_heap w _ 0, by omega, by omega, Lib.hid (by rw [← hsp]; rfl), rfl, rfl, by simp, by simp, NewRow.nil _ _ _ _, (Tch.refl [] w).alloc _⟩
  case round =>
    obtain ⟨pos, fuel, ws, cur, v, hit, hpl, hfu, hsw, rfl, rfl, hcl, hwl, hv, ht⟩ := hrel
    have hpos0 : wr.iterPos w.heap.size = pos := by simp [World.iterPos, hit]
    clear hsp
    by_cases hp : pos < S.size
    · have hnx : ∀ ty, (Instr.next (.pointer (some ⟨w.heap.size, 0, none⟩)) true ty).run Tryd.prog wr = _ := fun ty => Lib.run_next_any_at wr w.heap.size S pos ty hit hp
      obtain ⟨f, rfl⟩ : ∃ f, fuel = f + 1 := ⟨fuel - 1, by omega⟩
      have hdl : Lib.decodeL ((l ++ [32]).drop pos) = Utf8.decode S pos := by rw [← hSd]; exact Lib.decodeL_drop S pos
      have hne : (l ++ [32]).drop pos ≠ [] := by
        intro e
        have := congrArg List.length e
        simp at this; omega
      have hw1 := Lib.decodeL_width ((l ++ [32]).drop pos)
      have hw2 := Lib.decodeL_le _ hne
      have hst : spT (f + 1) ((l ++ [32]).drop pos) cur = if (Utf8.decode S pos).1 = 35 then flW cur else if (Utf8.decode S pos).1 = 32 then flW cur ++ spT f ((l ++ [32]).drop (pos + (Utf8.decode S pos).2)) [] else spT f ((l ++ [32]).drop (pos + (Utf8.decode S pos).2)) (cur ++ Lib.encodeRune ((Utf8.decode S pos).1 : Int)) := by
        rw [spT, if_neg hne, hdl, List.drop_drop]
      rw [hdl] at hw1 hw2
      rw [hst] at hsw
      have hit2 := Lib.iterAt_heap wr w.heap.size S pos (pos + (Utf8.decode S pos).2) hit
      have ht2 := ht.iter (Nat.le_refl _) S (pos + (Utf8.decode S pos).2)
      have hv2 := hv.iter hit (pos + (Utf8.decode S pos).2)
      clear hst hdl hne
      have hel := enc_len ((Utf8.decode S pos).1 : Int)
      have hec := utf8_enc ((Utf8.decode S pos).1 : Int)
      rw [List.length_drop, List.length_append] at hw2
      generalize Utf8.decode S pos = dd at *
      obtain ⟨W2, hW2⟩ : ∃ W2, W2 = wr.iterAt w.heap.size S (pos + dd.2) := ⟨_, rfl⟩
      rw [← hW2] at hnx hit2 ht2 hv2
      clear hW2
      simp at hw2
      have hpos2 : W2.iterPos w.heap.size = pos + dd.2 := by simp [World.iterPos, hit2]
      have HB := Lib.hid (And.intro hsw (And.intro hw1 (And.intro hw2 (And.intro hcl (And.intro hwl (And.intro hfu (And.intro hpl (And.intro hpos2 (And.intro hpos0 (And.intro hel (And.intro hit2 (And.intro hv2 ht2))))))))))))
      have hen : (Lib.encodeRune ((dd.1 : Nat) : Int)).length ≤ 4 := hel
      clear hSd hsw hw1 hw2 hfu hpos2 hpos0 hel hv ht hSz
      by_cases h35 : dd.1 = 35
      · have hb35 : ((dd.1 : Int) == 35) = true := by simp [h35]
        have H35 := Lib.hid h35
        clear h35 hec hen
        generalize hdi : ((dd.1 : Nat) : Int) = di at *
        clear hdi
        by_cases hcu : cur = []
        · have HC := Lib.hid hcu
          have hb : (cur == []) = true := by simp [hcu]
          have hb2 : cur.isEmpty = true := by simp [hcu]
          clear hcu
          go_wp2_with fail
          go_ret
          obtain ⟨b1, b2, b3, b4, b5, b6, b7, b8, b9, b10, b11, b12, b13⟩ := HB.out
          rw [if_pos H35.out] at b1
          exact ⟨_, rfl, HF.out cur ws _ W2 b1 b12 b13 (by omega) _ _ (fun _ => ⟨rfl, rfl⟩) (fun h => absurd HC.out h)⟩
        · have HC := Lib.hid hcu
          have hb : (cur == []) = false := by simp [hcu]
          have hb2 : cur.isEmpty = false := by simp [hcu]
          clear hcu
          have hown := HB.out.2.2.2.2.2.2.2.2.2.2.2.1.1
          have hbnd : ws.length + 1 ≤ 9223372036854775807 ∧ (ws.length + 1) * 16 ≤ 140737488355328 := by omega
          go_wp2_with (first | (at_builtin; refine wpList_append_any _ rfl (.tmp 29) (.tmp 31) 39 rfl 9 i0 (.string ⟨#[]⟩) 1 16 Tryd.underlying39 hi hz0 hz1 hz2 rfl (by decide) _ ws.length (strs ws) rfl (hown.alloc _) [] _ 1 [.string ⟨cur.toArray⟩] rfl (src_new W2 _ [] #[.string ⟨cur.toArray⟩] _ 1 1 (Tch.refl [] _) (by simp)) rfl (one_str cur) hbnd ?_; intro ao cap w3 hown3 hgrow hat) | fail)
          go_ret
          obtain ⟨b1, b2, b3, b4, b5, b6, b7, b8, b9, b10, b11, b12, b13⟩ := HB.out
          rw [if_pos H35.out] at b1
          have b14 := b12.2
          have b15 := b13.size
          exact ⟨_, rfl, HF.out cur ws _ W2 b1 b12 b13 (by omega) _ _ (fun h => absurd h HC.out) (fun _ => ⟨NewRow.of b14 (by simp; omega) hown3 hat, (b13.alloc _).grew hgrow b14⟩)⟩
      · have hb35 : ((dd.1 : Int) == 35) = false := by simp; omega
        have H35 := Lib.hid h35
        by_cases h32 : dd.1 = 32
        · have hb32 : ((dd.1 : Int) != 32) = false := by simp [h32]
          have H32 := Lib.hid h32
          clear h32 h35 hec hen
          generalize hdi : ((dd.1 : Nat) : Int) = di at *
          clear hdi
          by_cases hcu : cur = []
          · have HC := Lib.hid hcu
            have hb : (cur == []) = true := by simp [hcu]
            have hb2 : cur.isEmpty = true := by simp [hcu]
            clear hcu
            go_wp2_with fail
            go_roundw
            case rel =>
              obtain ⟨b1, b2, b3, b4, b5, b6, b7, b8, b9, b10, b11, b12, b13⟩ := HB.out
              have e35 := H35.out
              rw [if_neg H35.out, if_pos H32.out, HC.out] at b1
              exact ⟨pos + dd.2, f, ws, [], _, b11, by omega, by omega, Lib.hid (by simpa [flW] using b1.out), rfl, rfl, by simp, by omega, b12, b13⟩
            case measure =>
              obtain ⟨b1, b2, b3, b4, b5, b6, b7, b8, b9, b10, b11, b12, b13⟩ := HB.out
              omega
          · have HC := Lib.hid hcu
            have hb : (cur == []) = false := by simp [hcu]
            have hb2 : cur.isEmpty = false := by simp [hcu]
            clear hcu
            have hown := HB.out.2.2.2.2.2.2.2.2.2.2.2.1.1
            have hbnd : ws.length + 1 ≤ 9223372036854775807 ∧ (ws.length + 1) * 16 ≤ 140737488355328 := by omega
            go_wp2_with (first | (at_builtin; refine wpList_append_any _ rfl (.tmp 23) (.tmp 25) 39 rfl 9 i0 (.string ⟨#[]⟩) 1 16 Tryd.underlying39 hi hz0 hz1 hz2 rfl (by decide) _ ws.length (strs ws) rfl (hown.alloc _) [] _ 1 [.string ⟨cur.toArray⟩] rfl (src_new W2 _ [] #[.string ⟨cur.toArray⟩] _ 1 1 (Tch.refl [] _) (by simp)) rfl (one_str cur) hbnd ?_; intro ao cap w3 hown3 hgrow hat) | fail)
            obtain ⟨b1, b2, b3, b4, b5, b6, b7, b8, b9, b10, b11, b12, b13⟩ := HB.out
            have b14 := b12.2
            have b15 := b13.size
            have b16 := iter_grown hgrow (k := w.heap.size) ((Below.heap_alloc _ _ _ (heap_lt b11)).trans b11) (own_not_iter hown b11)
            have b17 : w3.iterPos w.heap.size = pos + dd.2 := by simp [World.iterPos, b16]
            have e35 := H35.out
            rw [if_neg H35.out, if_pos H32.out] at b1
            have b18 := NewRow.of b14 (by simp; omega) hown3 hat
            have b19 := (b13.alloc _).grew hgrow b14
            have HH := Lib.hid (And.intro b1 (And.intro b16 (And.intro b17 (And.intro b18 b19))))
            clear b1 b16 b17 b18 b19 hown3 hgrow hat
            go_roundw
            case rel =>
              obtain ⟨b1, b16, b17, b18, b19⟩ := HH.out
              have hcn := HC.out
              exact ⟨pos + dd.2, f, ws ++ [cur], [], _, b16, by omega, by omega, Lib.hid (by simpa [flW, hcn] using b1.out), rfl, rfl, by simp, by simp; omega, by rw [List.length_append, strs_append]; exact b18, b19⟩
            case measure =>
              obtain ⟨b1, b16, b17, b18, b19⟩ := HH.out
              rw [b17]
              omega
        · have hb32 : ((dd.1 : Int) != 32) = true := by simp; omega
          have H32 := Lib.hid h32
          clear h32 h35
          have HE := Lib.hid (rfl : Lib.encodeRune ((dd.1 : Nat) : Int) = Lib.encodeRune ((dd.1 : Nat) : Int))
          obtain ⟨en, hen1⟩ : ∃ en, en = Lib.encodeRune ((dd.1 : Nat) : Int) := ⟨_, rfl⟩
          rw [← hen1] at hec hen
          have HE := Lib.hid hen1; clear hen1
          have hz2 : ¬ 9223372036854775807 < cur.length + en.length := by omega
          generalize hdi : ((dd.1 : Nat) : Int) = di at hb35 hb32 hec hnx
          clear hdi hen hpl hcl hwl
          go_wp2_with fail
          go_roundw
          case rel =>
            obtain ⟨b1, b2, b3, b4, b5, b6, b7, b8, b9, b10, b11, b12, b13⟩ := HB.out
            have e35 := H35.out
            have e32 := H32.out
            rw [if_neg H35.out, if_neg H32.out] at b1
            exact ⟨pos + dd.2, f, ws, cur ++ en, _, b11, by omega, by omega, by rw [HE.out]; exact b1, rfl, by rw [strcat], by rw [HE.out, List.length_append]; omega, by omega, b12, b13⟩
          case measure =>
            obtain ⟨b1, b2, b3, b4, b5, b6, b7, b8, b9, b10, b11, b12, b13⟩ := HB.out
            omega
    · have hnx : ∀ ty, (Instr.next (.pointer (some ⟨w.heap.size, 0, none⟩)) true ty).run Tryd.prog wr = _ := fun ty => Lib.run_next_end_at wr w.heap.size S pos ty hit hp
      have hnil : (l ++ [32]).drop pos = [] := List.drop_eq_nil_of_le (by simp; omega)
      rw [hnil, spT_nil] at hsw
      have HB := Lib.hid (And.intro hsw (And.intro hv ht))
      have hown := hv.1
      have hbnd : ws.length + 1 ≤ 9223372036854775807 ∧ (ws.length + 1) * 16 ≤ 140737488355328 := by omega
      have hlen : ws.length ≤ 1099511627790 := by omega
      clear hsw hv ht hnil hpos0 hSd hSz hp hit hfu
      by_cases hcu : cur = []
      · have HC := Lib.hid hcu
        have hb : (cur == []) = true := by simp [hcu]
        have hb2 : cur.isEmpty = true := by simp [hcu]
        clear hcu
        go_wp2_with fail
        go_ret
        obtain ⟨b1, b12, b13⟩ := HB.out
        exact ⟨_, rfl, HF.out cur ws _ wr b1.out b12 b13 hlen _ _ (fun _ => ⟨rfl, rfl⟩) (fun h => absurd HC.out h)⟩
      · have HC := Lib.hid hcu
        have hb : (cur == []) = false := by simp [hcu]
        have hb2 : cur.isEmpty = false := by simp [hcu]
        clear hcu
        go_wp2_with (first | (at_builtin; refine wpList_append_any _ rfl (.tmp 29) (.tmp 31) 39 rfl 9 i0 (.string ⟨#[]⟩) 1 16 Tryd.underlying39 hi hz0 hz1 hz2 rfl (by decide) _ ws.length (strs ws) rfl (hown.alloc _) [] _ 1 [.string ⟨cur.toArray⟩] rfl (src_new wr _ [] #[.string ⟨cur.toArray⟩] _ 1 1 (Tch.refl [] _) (by simp)) rfl (one_str cur) hbnd ?_; intro ao cap w3 hown3 hgrow hat) | fail)
        go_ret
        obtain ⟨b1, b12, b13⟩ := HB.out
        have b14 := b12.2
        have b15 := b13.size
        exact ⟨_, rfl, HF.out cur ws _ wr b1.out b12 b13 hlen _ _ (fun h => absurd h HC.out) (fun _ => ⟨NewRow.of b14 (by simp; omega) hown3 hat, (b13.alloc _).grew hgrow b14⟩)⟩
end Go.Proofs.YteebapopeaafhaaDoor
namespace Go.Tcn
open Go.RowKit
set_option linter.unusedVariables false
set_option linter.unusedSimpArgs false
/-- What number hands back. -/
def numTo (w : Wd) : Value := match numW w with
  | none => .tuple #[.int .i64 0, .bool false]
  | some n => .tuple #[.int .i64 n, .bool true]
/-- Has it a sign? -/
def negW (w : Wd) : Bool := decide (w.head? = some 45)
def CutP (P : Program) (f : FuncId) : Prop := ∀ (wd : Wd) (w : World), Calls P f #[.string ⟨wd.toArray⟩, .string ⟨#[45]⟩] w fun e w' => e = .returned (.tuple #[.string ⟨(bodyOf wd).toArray⟩, .bool (negW wd)]) ∧ w = w'
theorem digV_le : ∀ (l : Wd) (n m : Int), digV l n = some m → 0 ≤ n → 0 ≤ m ∧ m < (n + 1) * 10 ^ l.length
  | [], n, m, h, h0 => by simp only [digV, Option.some.injEq] at h; subst h; simp; omega
  | c :: l, n, m, h, h0 => by
    rw [digV] at h
    split at h
    · rename_i hc
      have := digV_le l _ _ h (by omega)
      refine ⟨this.1, Int.lt_of_lt_of_le this.2 ?_⟩
      rw [List.length_cons, Int.pow_succ, Int.mul_comm (10 ^ l.length) 10, ← Int.mul_assoc]
      exact Int.mul_le_mul_of_nonneg_right (by omega) (Int.pow_nonneg (by omega))
    · cases h
theorem numW_le (w : Wd) (n : Int) (h : numW w = some n) : -10000000000 < n ∧ n < 10000000000 := by
  unfold numW at h
  split at h
  · cases h
  · rename_i hc
    cases hd : digV (bodyOf w) 0 with
    | none => rw [hd] at h; cases h
    | some m =>
      rw [hd] at h
      simp only [Option.map_some, Option.some.injEq] at h
      have h1 := digV_le _ _ _ hd (Int.le_refl 0)
      have hl : (bodyOf w).length ≤ 10 := by omega
      have h2 : (0 + 1 : Int) * 10 ^ (bodyOf w).length ≤ 10 ^ 10 := by
        rw [Int.zero_add, Int.one_mul]
        have : ∀ k : Nat, (10 : Int) ^ k ≤ 10 ^ (k + 1) := fun k => by
          rw [Int.pow_succ]
          have := Int.pow_nonneg (n := 10) (m := k) (by omega : (0 : Int) ≤ 10)
          omega
        have mono : ∀ d k : Nat, (10 : Int) ^ k ≤ 10 ^ (k + d) := fun d k => by
          induction d with
          | zero => exact Int.le_refl _
          | succ d ih => exact Int.le_trans ih (this (k + d))
        have := mono (10 - (bodyOf w).length) (bodyOf w).length
        rwa [show (bodyOf w).length + (10 - (bodyOf w).length) = 10 by omega] at this
      have h3 : (10 : Int) ^ 10 = 10000000000 := by decide
      rw [h3] at h2
      split at h <;> omega
end Go.Tcn
namespace Go.Proofs.YteebapopeaafhaaDoor
open Go.RowKit Go.Tcn
set_option linter.unusedVariables false
set_option linter.unusedSimpArgs false
set_option maxRecDepth 100000 in
set_option maxHeartbeats 4000000 in
theorem tx_number (hCut : CutP Tryd.prog 91) (w : World) (wd : Wd) (hl : wd.length ≤ 1099511627776) :
    Calls Tryd.prog 63 #[.string ⟨wd.toArray⟩] w fun e w' => e = .returned (numTo wd) ∧ Tch [] w w' := by
  have hbl : (bodyOf wd).length ≤ wd.length := by unfold bodyOf; split <;> simp
  obtain ⟨bd, hbd⟩ : ∃ bd, bodyOf wd = bd := ⟨_, rfl⟩
  have hC := hCut wd w
  rw [hbd] at hC hbl
  clear hCut
  go_enter Tryd.func63, Tryd.ntmps63
  go_wp2_with fail
  refine hC.mono ?_
  rintro e w1 ⟨rfl, rfl⟩
  have HBD := Lib.hid hbd
  clear hC hbd
  have hsz : (⟨bd.toArray⟩ : ByteArray).size = bd.length := by simp [ByteArray.size]
  obtain ⟨bad, hbad⟩ : ∃ bad : Bool, bad = decide (bd = [] ∨ 10 < bd.length ∨ (bd.head? = some 48 ∧ wd ≠ [48])) := ⟨_, rfl⟩
  have HB := Lib.hid hbad
  clear hbad
  go_upto_region 2 with fail
  go_cut [29] (fun v wz => v = .bool bad ∧ w = wz)
  case first =>
    match bd, HB, hsz with
    | [], HB, hsz =>
      have hb := HB.out
      simp at hb
      subst hb
      go_wp2_with fail
      go_meet
      exact ⟨rfl, rfl⟩
    | c :: r, HB, hsz =>
      have hb2 : (c :: r).isEmpty = false := rfl
      have hc0 : ∀ h, (⟨(c :: r).toArray⟩ : ByteArray)[0]'h = c := fun _ => rfl
      have hlc : (c :: r).length = r.length + 1 := rfl
      rw [hlc] at hsz
      have hb := HB.out
      simp only [List.length_cons, List.head?_cons, reduceCtorEq, false_or, Option.some.injEq] at hb
      have hc8 : ((c.toNat : Int) == 48) = decide (c = 48) := by
        by_cases h : c = 48
        · subst h; decide
        · have : c.toNat ≠ 48 := fun e => h (UInt8.toNat_inj.1 e)
          simp [h]; omega
      have hw8 : (wd == [48]) = decide (wd = [48]) := by by_cases h : wd = [48] <;> simp [h]
      by_cases h10 : 10 < r.length + 1
      · have h10' : decide ((10 : Int) < (r.length : Int) + 1) = true := decide_eq_true (by omega)
        have hbt : bad = true := by rw [hb]; simp [h10]
        clear hb
        go_wp2_with fail
        go_meet
        exact ⟨by rw [hbt], rfl⟩
      · have h10' : decide ((10 : Int) < (r.length : Int) + 1) = false := decide_eq_false (by omega)
        by_cases h48 : c = 48
        · by_cases hw0 : wd = [48]
          · have hbt : bad = false := by rw [hb]; simp [h10, hw0]
            have hc1 : ((c.toNat : Int) == 48) = true := by rw [hc8]; simp [h48]
            have hw1 : (wd == [48]) = true := by simp [hw0]
            clear hb hc8 hw8 h48 hw0
            go_wp2_with fail
            go_meet
            exact ⟨by rw [hbt], rfl⟩
          · have hbt : bad = true := by rw [hb]; simp [h48, hw0]
            have hc1 : ((c.toNat : Int) == 48) = true := by rw [hc8]; simp [h48]
            have hw1 : (wd == [48]) = false := by simp [hw0]
            clear hb hc8 hw8 h48 hw0
            go_wp2_with fail
            go_meet
            exact ⟨by rw [hbt], rfl⟩
        · have hbt : bad = false := by rw [hb]; simp [h10, h48]
          have hc1 : ((c.toNat : Int) == 48) = false := by rw [hc8]; simp [h48]
          clear hb hc8 hw8 h48
          go_wp2_with fail
          go_meet
          exact ⟨by rw [hbt], rfl⟩
  case rest =>
    obtain ⟨rfl, rfl⟩ := hcut
    cases bad
    · have hb := HB.out
      have hbad : ¬ (bd = [] ∨ 10 < bd.length ∨ (bd.head? = some 48 ∧ wd ≠ [48])) := by
        intro h; rw [decide_eq_true h] at hb; cases hb
      have hnum : numTo wd = match digV bd 0 with
          | none => .tuple #[.int .i64 0, .bool false]
          | some n => .tuple #[.int .i64 (if wd.head? = some 45 then -n else n), .bool true] := by
        unfold numTo numW
        rw [HBD.out, if_neg hbad]
        cases digV bd 0 <;> rfl
      have hlen : bd.length ≤ 10 := by
        by_cases h : 10 < bd.length
        · exact absurd (.inr (.inl h)) hbad
        · omega
      clear hb hbad HB
      have HN := Lib.hid hnum
      clear hnum
      go_wp2_with fail
      go_loopw [6] (fun x wz => ∃ (pos : Nat) (n : Int), wz.heap[w.heap.size]? = some (.stringIter ⟨bd.toArray⟩ pos) ∧ pos ≤ bd.length ∧ Hid (digV bd 0 = digV (bd.drop pos) n) ∧ x = .int .i64 n ∧ 0 ≤ n ∧ n < 10 ^ pos ∧ Tch [] w wz) (fun _ wz => bd.length + 1 - wz.iterPos w.heap.size)
      case atStart => exact ⟨0, 0, World.iter_heap w _ 0, by omega, Lib.hid rfl, rfl, by omega, by decide, (Tch.refl [] w).alloc _⟩
      case round =>
        obtain ⟨pos, n, hit, hpl, hdg, rfl, hn0, hn1, ht⟩ := hrel
        have hpos0 : wr.iterPos w.heap.size = pos := by simp [World.iterPos, hit]
        by_cases hp : pos < bd.length
        · have hps : pos < (⟨bd.toArray⟩ : ByteArray).size := by omega
          have hdr : bd.drop pos = bd[pos] :: bd.drop (pos + 1) := List.drop_eq_getElem_cons hp
          have hge : (⟨bd.toArray⟩ : ByteArray)[pos]'hps = bd[pos] := rfl
          have hdv : digV (bd.drop pos) n = if 48 ≤ (bd[pos]).toNat ∧ (bd[pos]).toNat ≤ 57 then digV (bd.drop (pos + 1)) (10 * n + ((bd[pos]).toNat - 48 : Int)) else none := by rw [hdr]; rfl
          by_cases ha : (bd[pos]).toNat < 128
          · have hnx : ∀ ty, (Instr.next (.pointer (some ⟨w.heap.size, 0, none⟩)) true ty).run Tryd.prog wr = _ := fun ty => Lib.run_next_ascii_at wr w.heap.size ⟨bd.toArray⟩ pos ty hit hps (by rw [hge]; exact ha)
            have hit2 := Lib.iterAt_heap wr w.heap.size ⟨bd.toArray⟩ pos (pos + 1) hit
            have ht2 := ht.iter (Nat.le_refl _) ⟨bd.toArray⟩ (pos + 1)
            rw [hge] at hnx
            clear hge hdr hit ht
            generalize bd[pos] = c at *
            obtain ⟨W2, hW2⟩ : ∃ W2, W2 = wr.iterAt w.heap.size ⟨bd.toArray⟩ (pos + 1) := ⟨_, rfl⟩
            rw [← hW2] at hnx hit2 ht2
            clear hW2
            have hpos2 : W2.iterPos w.heap.size = pos + 1 := by simp [World.iterPos, hit2]
            have hp10 : (10 : Int) ^ pos ≤ 10000000000 / 10 := by
              have h9 : pos ≤ 9 := by omega
              have mono : ∀ k, k ≤ 9 → (10 : Int) ^ k ≤ 1000000000 := by
                intro k hk
                match k, hk with
                | 0, _ | 1, _ | 2, _ | 3, _ | 4, _ | 5, _ | 6, _ | 7, _ | 8, _ | 9, _ => decide
              exact mono pos h9
            have hps10 : (10 : Int) ^ (pos + 1) = 10 * 10 ^ pos := by rw [Int.pow_succ, Int.mul_comm]
            have hcn : 0 ≤ (c.toNat : Int) := Int.natCast_nonneg _
            by_cases hd : 48 ≤ c.toNat ∧ c.toNat ≤ 57
            · rw [if_pos hd] at hdv
              rw [hdv] at hdg
              clear hdv
              have h1 : decide ((c.toNat : Int) < 48) = false := decide_eq_false (by omega)
              have h2 : decide ((57 : Int) < (c.toNat : Int)) = false := decide_eq_false (by omega)
              obtain ⟨hd1, hd2⟩ := hd
              have HH := Lib.hid (And.intro hdg (And.intro hit2 (And.intro ht2 (And.intro hpos2 (And.intro hpos0 (And.intro hps10 (And.intro hp10 (And.intro hn1 hpl))))))))
              have hnn : n < 1000000000 := by omega
              have hci1 : 48 ≤ (c.toNat : Int) := by omega
              have hci2 : (c.toNat : Int) ≤ 57 := by omega
              clear hdg hit2 ht2 hpos2 hpos0 hps10 hp10 hn1 hpl ha hd1 hd2 hlen hps hcn
              generalize ((c.toNat : Nat) : Int) = ci at *
              go_wp2_with fail
              go_roundw
              case rel =>
                obtain ⟨q1, q2, q3, q4, q5, q6, q7, q8, q9⟩ := HH.out
                exact ⟨pos + 1, _, q2, by omega, q1, rfl, by omega, by rw [q6]; omega, q3⟩
              case measure =>
                obtain ⟨q1, q2, q3, q4, q5, q6, q7, q8, q9⟩ := HH.out
                omega
            · rw [if_neg hd] at hdv
              rw [hdv] at hdg
              clear hdv
              have hnn := HN.out
              rw [hdg.out] at hnn
              have HN2 := Lib.hid hnn
              clear hnn hdg HN hps10 hp10 hn1 hpos2 hpos0 hit2
              by_cases h48 : c.toNat < 48
              · have h1 : decide ((c.toNat : Int) < 48) = true := decide_eq_true (by omega)
                clear hd ha
                generalize ((c.toNat : Nat) : Int) = ci at *
                go_wp2_with fail
                go_ret2
                exact ⟨by rw [HN2.out]; rfl, ht2⟩
              · have h1 : decide ((c.toNat : Int) < 48) = false := decide_eq_false (by omega)
                have h2 : decide ((57 : Int) < (c.toNat : Int)) = true := decide_eq_true (by omega)
                clear hd ha
                generalize ((c.toNat : Nat) : Int) = ci at *
                go_wp2_with fail
                go_ret2
                exact ⟨by rw [HN2.out]; rfl, ht2⟩
          · have hnx : ∀ ty, (Instr.next (.pointer (some ⟨w.heap.size, 0, none⟩)) true ty).run Tryd.prog wr = _ := fun ty => Lib.run_next_any_at wr w.heap.size ⟨bd.toArray⟩ pos ty hit hps
            have hdh := (decode_high ⟨bd.toArray⟩ pos hps (by rw [hge]; omega)).1
            have ht2 := ht.iter (Nat.le_refl _) ⟨bd.toArray⟩ (pos + (Utf8.decode ⟨bd.toArray⟩ pos).2)
            rw [if_neg (by omega)] at hdv
            rw [hdv] at hdg
            clear hdv hge hdr hit ht ha
            have hnn := HN.out
            rw [hdg.out] at hnn
            have HN2 := Lib.hid hnn
            clear hnn hdg HN hn1 hpos0
            generalize Utf8.decode ⟨bd.toArray⟩ pos = dd at *
            obtain ⟨W2, hW2⟩ : ∃ W2, W2 = wr.iterAt w.heap.size ⟨bd.toArray⟩ (pos + dd.2) := ⟨_, rfl⟩
            rw [← hW2] at hnx ht2
            clear hW2
            have h1 : decide ((dd.1 : Int) < 48) = false := decide_eq_false (by omega)
            have h2 : decide ((57 : Int) < (dd.1 : Int)) = true := decide_eq_true (by omega)
            clear hdh
            generalize ((dd.1 : Nat) : Int) = ci at *
            go_wp2_with fail
            go_ret2
            exact ⟨by rw [HN2.out]; rfl, ht2⟩
        · have hps : ¬ pos < (⟨bd.toArray⟩ : ByteArray).size := by omega
          have hnx : ∀ ty, (Instr.next (.pointer (some ⟨w.heap.size, 0, none⟩)) true ty).run Tryd.prog wr = _ := fun ty => Lib.run_next_end_at wr w.heap.size ⟨bd.toArray⟩ pos ty hit hps
          have hnn := HN.out
          rw [hdg.out, List.drop_eq_nil_of_le (by omega)] at hnn
          simp only [digV] at hnn
          have hn10 : n < 10000000000 := by
            have mono : ∀ k, k ≤ 10 → (10 : Int) ^ k ≤ 10000000000 := by
              intro k hk
              match k, hk with
              | 0, _ | 1, _ | 2, _ | 3, _ | 4, _ | 5, _ | 6, _ | 7, _ | 8, _ | 9, _ | 10, _ => decide
            have := mono pos (by omega)
            omega
          clear hdg HN hn1 hpos0 hit hp hps
          cases hb : negW wd
          · have hneg : ¬ wd.head? = some 45 := of_decide_eq_false hb
            rw [if_neg hneg] at hnn
            have HN2 := Lib.hid hnn
            clear hnn hneg hb
            go_wp2_with fail
            go_ret2
            exact ⟨by rw [HN2.out]; rfl, ht⟩
          · have hneg : wd.head? = some 45 := of_decide_eq_true hb
            rw [if_pos hneg] at hnn
            have HN2 := Lib.hid hnn
            clear hnn hneg hb
            go_wp2_with fail
            go_ret2
            exact ⟨by rw [HN2.out]; rfl, ht⟩
    · have hn : numTo wd = .tuple #[.int .i64 0, .bool false] := by
        have hb := HB.out
        have hbad : (bd = [] ∨ 10 < bd.length ∨ (bd.head? = some 48 ∧ wd ≠ [48])) := of_decide_eq_true hb.symm
        unfold numTo numW
        rw [HBD.out, if_pos hbad]
      have HN := Lib.hid hn; clear hn
      go_wp2_with fail
      go_ret2
      exact ⟨by rw [HN.out]; rfl, Tch.refl _ _⟩
end Go.Proofs.YteebapopeaafhaaDoor
namespace Go.Tcn
open Go.RowKit
set_option linter.unusedVariables false
set_option linter.unusedSimpArgs false
/-- All lines of a text, the one behind the last line feed too. -/
def linesG : Wd → List Wd
  | [] => [[]]
  | c :: s => if c = 10 then [] :: linesG s else match linesG s with
    | [] => [[c]]
    | l :: ls => (c :: l) :: ls
theorem linesG_ne : ∀ s, linesG s ≠ []
  | [] => by simp [linesG]
  | c :: s => by
    rw [linesG]
    split
    · simp
    · split <;> simp
theorem split_lines : ∀ s : Wd, Lib.splitK [10] 0 (s.count 10) s = linesG s
  | [] => rfl
  | c :: s => by
    have ih := split_lines s
    by_cases hc : c = 10
    · subst hc
      have hi : Lib.index ((10 : UInt8) :: s) [10] = 0 := by rw [Lib.index_one]; simp [Lib.indexByte]
      rw [List.count_cons_self, linesG, if_pos rfl, Lib.splitK, hi]
      simp [ih]
    · have hcn : (c :: s).count 10 = s.count 10 := by rw [List.count_cons_of_ne]; exact hc
      rw [hcn, linesG, if_neg hc]
      cases hk : s.count 10 with
      | zero =>
        rw [hk] at ih
        rw [← ih]
        rfl
      | succ k =>
        rw [hk] at ih
        have hpos : (10 : UInt8) ∈ s := List.count_pos_iff.1 (by omega)
        have hi : Lib.index (c :: s) [10] = Lib.index s [10] + 1 := by
          rw [Lib.index_one, Lib.index_one]
          have hge : ¬ Lib.indexByte s 10 = -1 := by
            intro e
            have h1 := Lib.index_spec s [10]
            rw [Lib.index_one, e] at h1
            rcases h1 with ⟨_, h2⟩ | ⟨i, h2, _⟩
            · obtain ⟨n, hn, he⟩ := List.getElem_of_mem hpos
              have := h2 n (by omega)
              unfold Lib.occAt at this
              rw [List.drop_eq_getElem_cons hn, he] at this
              simp at this
            · omega
          show (if (c == 10) = true then 0 else if (Lib.indexByte s 10 == -1) = true then -1 else Lib.indexByte s 10 + 1) = _
          rw [if_neg (by simpa using hc), if_neg (by simpa using hge)]
        have hg := Lib.index_ge s [10]
        have hm : ¬ (Lib.index s [10] == -1) = true := by
          intro e
          have e' := beq_iff_eq.1 e
          have : (Lib.splitK [10] 0 (k + 1) s) = [s] := by rw [Lib.splitK, if_pos e]
          have hcm := Lib.count_miss e'
          rw [Lib.count_one] at hcm
          omega
        have hm2 : ¬ (Lib.index (c :: s) [10] == -1) = true := by
          intro e
          have e' := beq_iff_eq.1 e
          omega
        rw [Lib.splitK, if_neg hm2, hi]
        rw [Lib.splitK, if_neg hm] at ih
        rw [← ih]
        have hnn : ¬ Lib.index s [10] = -1 := fun e => hm (by simp [e])
        obtain ⟨i, hiN⟩ : ∃ i : Nat, Lib.index s [10] = i := ⟨(Lib.index s [10]).toNat, by omega⟩
        have e1 : ((i : Int) + 1).toNat = i + 1 := by omega
        rw [hiN, e1]
        simp only [Int.toNat_natCast, Nat.add_zero, List.take_succ_cons, List.length_cons, List.length_nil]
        rfl
theorem lines_two : ∀ s : Wd, linesG s = linesW s ++ [[]] ∨ (linesG s = linesW s ∧ ∃ ls c l, linesW s = ls ++ [c :: l])
  | [] => .inl rfl
  | c :: s => by
    by_cases hc : c = 10
    · rw [linesG, linesW, if_pos hc, if_pos hc]
      rcases lines_two s with h | ⟨h1, ls, d, l, h2⟩
      · left; rw [h]; rfl
      · right; exact ⟨by rw [h1], [] :: ls, d, l, by rw [h2]; rfl⟩
    · rw [linesG, linesW, if_neg hc, if_neg hc]
      rcases lines_two s with h | ⟨h1, ls, d, l, h2⟩
      · cases hw : linesW s with
        | nil => rw [h, hw]; right; exact ⟨rfl, [], c, [], rfl⟩
        | cons l ls => rw [h, hw]; left; rfl
      · rw [h1]
        right
        cases ls with
        | nil => rw [h2]; exact ⟨rfl, [], c, d :: l, rfl⟩
        | cons e ls => rw [h2]; exact ⟨rfl, (c :: e) :: ls, d, l, rfl⟩
theorem joinW_lib : ∀ ws : List Wd, Lib.join ws [32] = joinW ws
  | [] => rfl
  | [w] => Lib.join_one w [32]
  | w :: v :: l => by
    have ih := joinW_lib (v :: l)
    rw [Lib.join_cons] at ih ⊢
    show w ++ Lib.joinTail [32] (v :: l) = w ++ 32 :: joinW (v :: l)
    rw [← ih]
    rfl
theorem cut_eq (l : Wd) : Lib.trimPrefix l [45] = bodyOf l ∧ Lib.hasPrefix l [45] = negW l := by
  cases l with
  | nil => exact ⟨rfl, rfl⟩
  | cons c r =>
    by_cases h : c = 45
    · subst h
      constructor
      · simp [Lib.trimPrefix, Lib.hasPrefix, bodyOf]
      · simp [Lib.hasPrefix, negW]
    · have h' : ¬ (45 : UInt8) = c := fun e => h e.symm
      constructor
      · simp [Lib.trimPrefix, Lib.hasPrefix, bodyOf, h, h']
      · simp [Lib.hasPrefix, negW, h, h', List.isPrefixOf]
end Go.Tcn
namespace Go.Proofs.YteebapopeaafhaaDoor
open Go.RowKit Go.Tcn
set_option linter.unusedVariables false
set_option linter.unusedSimpArgs false
theorem lib_Cut : CutP Tryd.prog 91 := fun wd w => by
  have h := Any.strings_CutPrefix Tryd.lays103 ⟨wd.toArray⟩ ⟨#[45]⟩ w
  refine Calls.mono (P := Tryd.prog) (f := 91) h ?_
  rintro e w' ⟨rfl, rfl⟩
  have e1 := (cut_eq wd).1
  have e2 := (cut_eq wd).2
  refine ⟨?_, rfl⟩
  show Ending.returned (.tuple #[.string ⟨(Lib.trimPrefix wd [45]).toArray⟩, .bool (Lib.hasPrefix wd [45])]) = _
  rw [e1, e2]
/-- strings.Split(s, a line feed). -/
theorem lib_Split (w : World) (s : Wd) (m : Int) (hs : s.length < 4294967281) (hm : w.cell? ⟨2, 0, none⟩ = some (.int .i64 m)) :
    Calls Tryd.prog 16 #[.string ⟨s.toArray⟩, .string ⟨#[10]⟩] w fun e w' => e = .returned (.slice (some ⟨w.heap.size, 0, none⟩) (linesG s).length (linesG s).length) ∧ w' = w.alloc (.cells (strs (linesG s)).toArray 9) := by
  have h := Any.strings_Split Tryd.lays146 (by kernel_rfl) ⟨s.toArray⟩ ⟨#[10]⟩ m w (by simpa [ByteArray.size] using hs) hm (by decide)
  have hsz : (⟨#[10]⟩ : ByteArray).data.toList = [10] := rfl
  have hl : (Lib.splitB ⟨#[10]⟩ 0 (Lib.countB ⟨s.toArray⟩ ⟨#[10]⟩) ⟨s.toArray⟩).map (·.data.toList) = linesG s := by
    rw [Lib.splitB_data]
    show Lib.splitK [10] 0 (Lib.count s [10]) s = _
    rw [Lib.count_one, split_lines]
  have hn : Lib.countB ⟨s.toArray⟩ ⟨#[10]⟩ + 1 = (linesG s).length := by
    rw [← hl, List.length_map, Lib.splitB_all _ (by decide) 0 _ _ rfl]
  have hv : (Lib.splitB ⟨#[10]⟩ 0 (Lib.countB ⟨s.toArray⟩ ⟨#[10]⟩) ⟨s.toArray⟩).map Value.string = strs (linesG s) := by
    rw [← hl]
    unfold strs
    rw [List.map_map]
    apply List.map_congr_left
    intro x _
    rfl
  rw [hn, hv] at h
  exact h
/-- strings.Join(words, a blank). -/
theorem lib_Join (w : World) (L : List Nat) (a0 : Option Addr) (c0 : Nat) (ws : List Wd) (h : Src w L (.slice a0 ws.length c0) ws.length (strs ws)) (hl : ws.length ≤ 1099511627776) (hj : (joinW ws).length ≤ 1099511627776) :
    Calls Tryd.prog 54 #[.slice a0 ws.length c0, .string ⟨#[32]⟩] w fun e w' => e = .returned (.string ⟨(joinW ws).toArray⟩) ∧ Tch [] w w' := by
  by_cases hw : ws = []
  · subst hw
    refine Calls.mono (P := Tryd.prog) (f := 54) (Any.strings_Join_none Tryd.lays156 Tryd.Builder_Extra_156 a0 c0 ⟨#[32]⟩ w) ?_
    rintro e w' ⟨rfl, rfl⟩
    exact ⟨rfl, Tch.refl _ _⟩
  · have hl1 : 0 < ws.length := by cases ws with
      | nil => exact absurd rfl hw
      | cons => simp
    rcases h.ex with ⟨h1, h2, h3⟩ | ⟨ad, c, h1, h2, h3⟩
    · omega
    simp only [Value.slice.injEq] at h1
    obtain ⟨rfl, _, rfl⟩ := h1
    have hc0 := (h3 0 _ (List.getElem?_eq_getElem (by simpa using hl1))).2
    rw [Addr_add_zero] at hc0
    obtain ⟨bk, off, sp⟩ := ad
    have hsp : sp = none := by
      unfold World.cell? at hc0
      split at hc0
      · cases sp with
        | none => rfl
        | some q => simp at hc0
      · cases hc0
    subst hsp
    have hbk := cell_lt hc0
    have hj2 : (Lib.join ((ws.map fun w => (⟨w.toArray⟩ : ByteArray)).map (·.data.toList)) [32]).length ≤ 140737488355328 := by
      have : (ws.map fun w => (⟨w.toArray⟩ : ByteArray)).map (·.data.toList) = ws := by rw [List.map_map]; exact List.map_id ws
      rw [this, joinW_lib]; omega
    have hh := Any.strings_Join Tryd.lays156 Tryd.Builder_Extra_156 bk off c0 (ws.map fun w => ⟨w.toArray⟩) ⟨#[32]⟩ w (fun j x hx => ?_) hbk (by simp; omega) (by simpa using h2) hj2
    · have e1 : (ws.map fun w => (⟨w.toArray⟩ : ByteArray)).map (·.data.toList) = ws := by rw [List.map_map]; exact List.map_id ws
      have e2 : (ws.map fun w => (⟨w.toArray⟩ : ByteArray)).length = ws.length := by simp
      rw [e1, e2] at hh
      refine Calls.mono (P := Tryd.prog) (f := 54) hh ?_
      rintro e w' ⟨rfl, hb⟩
      refine ⟨?_, Tch.of_below hb []⟩
      rw [← joinW_lib]
    · have hx' : (strs ws)[j]? = some (.string x) := by
        unfold strs
        rw [List.getElem?_map] at hx ⊢
        cases hq : ws[j]? with
        | none => rw [hq] at hx; cases hx
        | some q => rw [hq] at hx; simp only [Option.map_some, Option.some.injEq] at hx ⊢; rw [hx]
      have := (h3 j _ hx').2
      have e : (⟨bk, off, none⟩ : Addr).add j = ⟨bk, off + j, none⟩ := by unfold Addr.add; split <;> simp_all
      rwa [e] at this
/-- strconv.Itoa. -/
theorem lib_Itoa (w : World) (n : Int) (h : -9223372036854775808 ≤ n ∧ n ≤ 9223372036854775807) (ht : Lib.TabIs Tryd.prog w "internal/strconv.uint64pow10" .u64 Lib.pow10Tab) :
    Calls Tryd.prog 27 #[.int .i64 n] w fun e w' => e = .returned (.string ⟨(Lib.itoa n).toArray⟩) ∧ Tch [] w w' := by
  refine Calls.mono (P := Tryd.prog) (f := 27) (Any.strconv_Itoa Tryd.laysM171 n h.1 h.2 w ht) ?_
  rintro e w' ⟨rfl, k, os, rfl⟩
  refine ⟨rfl, rfl, rfl, rfl, ?_, fun i hi _ => ?_⟩
  · show w.heap.size ≤ (w.heap ++ os).size
    simp
  · show (w.heap ++ os)[i]? = w.heap[i]?
    rw [Array.getElem?_append_left hi]
end Go.Proofs.YteebapopeaafhaaDoor
namespace Go.Tcn
open Go.RowKit
set_option linter.unusedVariables false
set_option linter.unusedSimpArgs false
theorem cells7 {w : World} {b : Nat} {a0 a1 a2 a3 a4 a5 a6 : Value} {T : TypeId} (h : w.heap[b]? = some (.cells #[a0, a1, a2, a3, a4, a5, a6] T (0, 0))) :
    w.cell? ⟨b, 0, none⟩ = some a0 ∧ w.cell? ⟨b, 1, none⟩ = some a1 ∧ w.cell? ⟨b, 2, none⟩ = some a2 ∧ w.cell? ⟨b, 3, none⟩ = some a3 ∧ w.cell? ⟨b, 4, none⟩ = some a4 ∧ w.cell? ⟨b, 5, none⟩ = some a5 ∧ w.cell? ⟨b, 6, none⟩ = some a6 ∧ ∀ j, w.frozen? ⟨b, j, none⟩ = false := by
  simp [World.cell?, World.frozen?, h]
theorem set7 {w : World} {b : Nat} {cs : Array Value} {T : TypeId} (h : w.heap[b]? = some (.cells cs T (0, 0))) (j : Nat) (x : Value) : (w.setCell ⟨b, j, none⟩ x).heap[b]? = some (.cells (cs.setIfInBounds j x) T (0, 0)) := by
  simp [World.setCell, Array.getElem?_modify, h]
/-- A row's cells are told by its value. -/
theorem own_cells {w : World} {E : TypeId} {sz : Nat} {v : Value} {n : Nat} {xs ys : List Value} (h : w.ownsRow 0 E sz v n xs) (k : w.ownsRow 0 E sz v n ys) : xs = ys := by
  rcases h.2 with ⟨h1, h2⟩ | ⟨g, cap, cur, h1, _, hg, _, _, _, ht⟩
  · have e1 : xs = [] := List.eq_nil_of_length_eq_zero (by rw [h.1, h2]; simp)
    have e2 : ys = [] := List.eq_nil_of_length_eq_zero (by rw [k.1, h2]; simp)
    rw [e1, e2]
  · rcases k.2 with ⟨k1, _⟩ | ⟨g', cap', cur', k1, _, kg, _, _, _, kt⟩
    · rw [h1] at k1; simp at k1
    · rw [h1] at k1
      simp only [Value.slice.injEq, Option.some.injEq, Addr.mk.injEq, and_true, true_and] at k1
      obtain ⟨rfl, rfl⟩ := k1
      rw [hg] at kg
      simp only [Option.some.injEq, Obj.cells.injEq] at kg
      rw [← ht, ← kt, kg.1]
section
variable (INT TI TM TC T : TypeId)
/-- text's parser p at block b; O: its blocks. -/
def PT1 (w : World) (b : Nat) (O : List Nat) (i : Img) (s : Nat) (f : Bool) : Prop :=
  ∃ vf vi vm ve, w.heap[b]? = some (.cells #[.string ⟨i.name.toArray⟩, vf, vi, vm, ve, .int .i64 s, .bool f] T (0, 0)) ∧ IO INT TI TM TC w b O vf vi vm ve i
/-- The parser's block has seven cells still. -/
def Sh7 (w : World) (b : Nat) : Prop := ∃ a0 a1 a2 a3 a4 a5 a6, w.heap[b]? = some (.cells #[a0, a1, a2, a3, a4, a5, a6] T (0, 0))
variable {INT TI TM TC T : TypeId}
theorem PT1.lt {w : World} {b : Nat} {O : List Nat} {i : Img} {s : Nat} {f : Bool} (h : PT1 INT TI TM TC T w b O i s f) : b < w.heap.size := by
  obtain ⟨vf, vi, vm, ve, h1, _⟩ := h
  exact heap_lt h1
theorem PT1.b {w : World} {b : Nat} {O : List Nat} {i : Img} {s : Nat} {f : Bool} (h : PT1 INT TI TM TC T w b O i s f) : b ∈ O := by
  obtain ⟨vf, vi, vm, ve, _, h1⟩ := h
  exact h1.b
theorem PT1.sh {w : World} {b : Nat} {O : List Nat} {i : Img} {s : Nat} {f : Bool} (h : PT1 INT TI TM TC T w b O i s f) : Sh7 T w b := by
  obtain ⟨vf, vi, vm, ve, h1, _⟩ := h
  exact ⟨_, _, _, _, _, _, _, h1⟩
theorem PT1.tch0 {w w' : World} {b : Nat} {O : List Nat} {i : Img} {s : Nat} {f : Bool} (h : PT1 INT TI TM TC T w b O i s f) (t : Tch [] w w') : PT1 INT TI TM TC T w' b O i s f := by
  obtain ⟨vf, vi, vm, ve, h1, h2⟩ := h
  exact ⟨vf, vi, vm, ve, by rw [t.block b (heap_lt h1) (by simp)]; exact h1, h2.tch0 t⟩
theorem Sh7.set {w : World} {b : Nat} (h : Sh7 T w b) (j : Nat) (x : Value) : Sh7 T (w.setCell ⟨b, j, none⟩ x) b := by
  obtain ⟨a0, a1, a2, a3, a4, a5, a6, h⟩ := h
  have := set7 h j x
  match j with
  | 0 => exact ⟨_, _, _, _, _, _, _, this⟩
  | 1 => exact ⟨_, _, _, _, _, _, _, this⟩
  | 2 => exact ⟨_, _, _, _, _, _, _, this⟩
  | 3 => exact ⟨_, _, _, _, _, _, _, this⟩
  | 4 => exact ⟨_, _, _, _, _, _, _, this⟩
  | 5 => exact ⟨_, _, _, _, _, _, _, this⟩
  | 6 => exact ⟨_, _, _, _, _, _, _, this⟩
  | j + 7 =>
    have e : (#[a0, a1, a2, a3, a4, a5, a6] : Array Value).setIfInBounds (j + 7) x = #[a0, a1, a2, a3, a4, a5, a6] := by
      apply Array.ext'
      simp
    rw [e] at this
    exact ⟨_, _, _, _, _, _, _, this⟩
theorem IO.neF {w : World} {b : Nat} {O : List Nat} {vf vi vm ve : Value} {i : Img} (h : IO INT TI TM TC w b O vf vi vm ve i) : vf.ownBlock ≠ some b := by
  obtain ⟨vc, icss, mcss, cn, ccs, h1, _⟩ := h
  exact (h1.own ⟨INT, 1, vf, i.fields.length, ints i.fields⟩ (by simp [rowsI])).2
theorem IO.neE {w : World} {b : Nat} {O : List Nat} {vf vi vm ve : Value} {i : Img} (h : IO INT TI TM TC w b O vf vi vm ve i) : ve.ownBlock ≠ some b := by
  obtain ⟨vc, icss, mcss, cn, ccs, h1, _⟩ := h
  exact (h1.own ⟨INT, 1, ve, i.exports.length, ints i.exports⟩ (by simp [rowsI])).2
/-- Behind a row's growth the parser's cell is stored. -/
theorem PT1.put {w w' : World} {b : Nat} {O : List Nat} {nm : Value} {vf vi vm ve vf' vi' vm' ve' : Value} {i' : Img} {s : Nat} {f : Bool} (h : w.heap[b]? = some (.cells #[nm, vf, vi, vm, ve, .int .i64 s, .bool f] T (0, 0))) (ha : Aft (INT := INT) (TI := TI) (TM := TM) (TC := TC) w w' b O vf' vi' vm' ve' i') (hb : w'.heap[b]? = w.heap[b]?) (hbO : b ∈ O) (j : Nat) (x : Value)
    (hc : (#[nm, vf, vi, vm, ve, .int .i64 s, .bool f] : Array Value).setIfInBounds j x = #[.string ⟨i'.name.toArray⟩, vf', vi', vm', ve', .int .i64 s, .bool f]) : ∃ O', PT1 INT TI TM TC T (w'.setCell ⟨b, j, none⟩ x) b O' i' s f ∧ Tch O w (w'.setCell ⟨b, j, none⟩ x) ∧ NewL w O O' := by
  obtain ⟨O', h1, h2, h3⟩ := ha
  have t : Tch [b] w' (w'.setCell ⟨b, j, none⟩ x) := (Tch.refl [b] w').setCell (.inl (by simp)) _
  refine ⟨O', ⟨vf', vi', vm', ve', ?_, h1.setb t⟩, h2.trans t (fun _ _ h => h) (fun k _ hk => by simp at hk; subst hk; exact hbO), h3⟩
  rw [← hc]
  exact set7 (hb.trans h) j x
/-- What a line's function leaves: q: the image and the stage, or none. -/
def SubTo (w w' : World) (b : Nat) (O : List Nat) (f : Bool) (q : Option (Img × Nat)) (e : Ending) : Prop :=
  e = .returned (.bool q.isSome) ∧ Sh7 T w' b ∧ ∃ O', Tch O w w' ∧ NewL w O O' ∧ ∀ i s, q = some (i, s) → PT1 INT TI TM TC T w' b O' i s f
end
variable (U : Lean1)
def appletT (i : Img) (s : Nat) (r : List Wd) : Option (Img × Nat) := if s ≠ 0 ∨ i.name ≠ [] then none else match r with
  | [n] => if U.isName n then some ({ i with name := n }, s) else none
  | _ => none
def fieldT (i : Img) (s : Nat) (r : List Wd) : Option (Img × Nat) := if i.name = [] ∨ 1 < s then none else match kindsP U r with
  | some [k] => some ({ i with fields := i.fields ++ [k] }, 1)
  | _ => none
def importT (i : Img) (s : Nat) (r : List Wd) : Option (Img × Nat) := if i.name = [] ∨ 2 < s then none else match r with
  | n :: e :: k :: ps => if U.isName n = true ∧ 0 ≤ U.kind k then match U.num e, kindsP U ps with
    | some x, some l => some ({ i with imports := i.imports ++ [⟨n, x, l, U.kind k⟩] }, 2)
    | _, _ => none else none
  | _ => none
def methodT (i : Img) (s : Nat) (r : List Wd) : Option (Img × Nat) := if i.name = [] ∨ 3 < s then none else match r with
  | k :: ps => if 0 ≤ U.kind k then match kindsP U ps with
    | some l => some ({ i with methods := i.methods ++ [⟨l, U.kind k, [], []⟩] }, 3)
    | none => none else none
  | _ => none
def localsT (i : Img) (s : Nat) (f : Bool) (r : List Wd) : Option (Img × Nat) := match kindsP U r with
  | some (k :: l) => if f then some ({ i with methods := addLast i.methods fun m => { m with locals := k :: l } }, s) else none
  | _ => none
def exportT (i : Img) (s : Nat) (r : List Wd) : Option (Img × Nat) := if i.methods = [] ∨ i.name = [] ∨ 4 < s then none else match r with
  | [e] => (U.num e).map fun x => ({ i with exports := i.exports ++ [x] }, 4)
  | _ => none
def instrT (i : Img) (s : Nat) (w0 : Wd) (r : List Wd) : Option (Img × Nat) := if s ≠ 3 ∨ U.op w0 = 0 then none else (insW U (U.op w0) r).map fun x => ({ i with methods := addLast i.methods fun m => { m with code := m.code ++ [x] } }, s)
/-- A line of words, but for the mark. -/
def subT (i : Img) (s : Nat) (f : Bool) (w0 : Wd) (r : List Wd) : Option (Img × Nat) :=
  if w0 = kApplet then appletT U i s r else if w0 = kField then fieldT U i s r else if w0 = kImport then importT U i s r else if w0 = kMethod then methodT U i s r
  else if w0 = kLocals then localsT U i s f r else if w0 = kExport then exportT U i s r else instrT U i s w0 r
theorem lineT_sub (p : PT) (w0 : Wd) (r : List Wd) : lineT U p (w0 :: r) = (subT U p.i p.stage p.fresh w0 r).map fun q => ⟨q.1, q.2, w0 == kMethod⟩ := by
  obtain ⟨i, s, f⟩ := p
  unfold lineT subT
  simp only
  split
  · unfold appletT
    split
    · rfl
    · match r with
      | [] => rfl
      | [n] => simp only; split <;> rfl
      | _ :: _ :: _ => rfl
  split
  · unfold fieldT
    split
    · rfl
    · cases kindsP U r with
      | none => rfl
      | some l => match l with
        | [] => rfl
        | [_] => rfl
        | _ :: _ :: _ => rfl
  split
  · unfold importT
    split
    · rfl
    · match r with
      | [] => rfl
      | [_] => rfl
      | [_, _] => rfl
      | n :: e :: k :: ps =>
        simp only
        split
        · cases U.num e <;> cases kindsP U ps <;> rfl
        · rfl
  split
  · unfold methodT
    split
    · rfl
    · match r with
      | [] => rfl
      | k :: ps =>
        simp only
        split
        · cases kindsP U ps <;> rfl
        · rfl
  split
  · unfold localsT
    cases kindsP U r with
    | none => rfl
    | some l => match l with
      | [] => rfl
      | k :: l => simp only; split <;> rfl
  split
  · unfold exportT
    split
    · rfl
    · match r with
      | [] => rfl
      | [e] => simp only; cases U.num e <;> rfl
      | _ :: _ :: _ => rfl
  · unfold instrT
    split
    · rfl
    · cases insW U (U.op w0) r <;> rfl
/-- Is a stage reached? -/
def reachB (i : Img) (s s' : Nat) : Bool := !(i.name == [] || decide (s' < s))
end Go.Tcn
namespace Go.Proofs.YteebapopeaafhaaDoor
open Go.RowKit Go.Tcn
set_option linter.unusedVariables false
set_option linter.unusedSimpArgs false
/-- text's parser at this seat. -/
def PTx (w : World) (b : Nat) (O : List Nat) (i : Img) (s : Nat) (f : Bool) : Prop := PT1 3 57 52 54 43 w b O i s f
def STx (w w' : World) (b : Nat) (O : List Nat) (f : Bool) (q : Option (Img × Nat)) (e : Ending) : Prop := SubTo (INT := 3) (TI := 57) (TM := 52) (TC := 54) (T := 43) w w' b O f q e
/-- utf8.ValidString's contract in all later worlds. -/
def ValC (w : World) : Prop := ∀ nm w', nm.length ≤ 16 → Tch [] w w' → Calls Tryd.prog 66 #[.string ⟨nm.toArray⟩] w' fun e w'' => e = .returned (.bool (Lib.validD nm)) ∧ Tch [] w' w''
theorem STx.no {w w' : World} {b : Nat} {O : List Nat} {f : Bool} {e : Ending} (he : e = .returned (.bool false)) (h : Sh7 43 w' b) (t : Tch O w w') : STx w w' b O f none e := ⟨he, h, O, t, NewL.refl _ _, fun _ _ h => by cases h⟩
theorem STx.yes {w w' : World} {b : Nat} {O O' : List Nat} {f : Bool} {e : Ending} {i : Img} {s : Nat} (he : e = .returned (.bool true)) (h : PTx w' b O' i s f) (t : Tch O w w') (n : NewL w O O') : STx w w' b O f (some (i, s)) e := ⟨he, h.sh, O', t, n, fun _ _ h' => by cases h'; exact h⟩
/-- What reach leaves. -/
def ReachTo (w w' : World) (b : Nat) (O : List Nat) (i : Img) (s s' : Nat) (f : Bool) : Prop := Tch [b] w w' ∧ PTx w' b O i (if reachB i s s' = true then s' else s) f
set_option maxRecDepth 100000 in
set_option maxHeartbeats 4000000 in
theorem tx_reach (w : World) (b : Nat) (O : List Nat) (i : Img) (s s' : Nat) (f : Bool) (h : PTx w b O i s f) :
    Calls Tryd.prog 62 #[.pointer (some ⟨b, 0, none⟩), .int .i64 s'] w fun e w' => e = .returned (.bool (reachB i s s')) ∧ ReachTo w w' b O i s s' f := by
  have H := Lib.hid h
  obtain ⟨vf, vi, vm, ve, h1, h2⟩ := h
  have HI := Lib.hid (And.intro h1 h2)
  clear h2
  obtain ⟨c0, c1, c2, c3, c4, c5, c6, hf⟩ := cells7 h1
  clear h1
  by_cases hn : i.name = []
  · have hb : reachB i s s' = false := by unfold reachB; simp [hn]
    have hnb : (i.name == []) = true := by simp [hn]
    have hnb2 : i.name.isEmpty = true := by simp [hn]
    have HB := Lib.hid hb
    clear hb hn
    go_enter Tryd.func62, Tryd.ntmps62
    go_wp2_with fail
    go_ret
    exact ⟨by rw [HB.out]; rfl, Tch.refl _ _, by rw [HB.out]; exact H.out⟩
  · have hnb : (i.name == []) = false := by simp [hn]
    have hnb2 : i.name.isEmpty = false := by simp [hn]
    by_cases hs : s' < s
    · have hb : reachB i s s' = false := by unfold reachB; simp [hs]
      have hd : decide (s' < s) = true := decide_eq_true hs
      have HB := Lib.hid hb
      clear hb hn hs
      go_enter Tryd.func62, Tryd.ntmps62
      go_wp2_with fail
      go_ret
      exact ⟨by rw [HB.out]; rfl, Tch.refl _ _, by rw [HB.out]; exact H.out⟩
    · have hb : reachB i s s' = true := by unfold reachB; simp [hn, hs]
      have hd : decide (s' < s) = false := decide_eq_false hs
      have HB := Lib.hid hb
      clear hb hn hs
      go_enter Tryd.func62, Tryd.ntmps62
      go_wp2_with fail
      go_ret
      have t : Tch [b] w (w.setCell ⟨b, 5, none⟩ (.int .i64 s')) := (Tch.refl [b] w).setCell (.inl (by simp)) _
      refine ⟨by rw [HB.out]; rfl, t, ?_⟩
      rw [HB.out, if_pos rfl]
      exact ⟨vf, vi, vm, ve, set7 HI.out.1 5 _, HI.out.2.setb t⟩
set_option maxRecDepth 100000 in
set_option maxHeartbeats 4000000 in
theorem tx_applet (w : World) (b : Nat) (O : List Nat) (i : Img) (s : Nat) (f : Bool) (h : PTx w b O i s f) (a0 : Option Addr) (c0 : Nat) (ws : List Wd) (hw : Src w O (.slice a0 ws.length c0) ws.length (strs ws)) (hV : ValC w) :
    Calls Tryd.prog 31 #[.pointer (some ⟨b, 0, none⟩), .slice a0 ws.length c0] w fun e w' => STx w w' b O f (appletT UU i s ws) e := by
  have H := Lib.hid h
  obtain ⟨vf, vi, vm, ve, h1, h2⟩ := h
  have HI := Lib.hid (And.intro h1 h2)
  have hbO := h2.b
  clear h2
  obtain ⟨d0, d1, d2, d3, d4, d5, d6, hf⟩ := cells7 h1
  clear h1
  have hno : ∀ e, appletT UU i s ws = none → e = .returned (.bool false) → STx w w b O f (appletT UU i s ws) e := fun e h1 h2 => by rw [h1]; exact STx.no h2 H.out.sh (Tch.refl _ _)
  have HNO := Lib.hid hno
  clear hno
  by_cases h0 : s ≠ 0 ∨ i.name ≠ []
  · have hq : appletT UU i s ws = none := by unfold appletT; rw [if_pos h0]
    have HQ := Lib.hid hq
    clear hq
    go_enter Tryd.func31, Tryd.ntmps31
    by_cases hs : s = 0
    · have hn : i.name ≠ [] := h0.elim (fun h => absurd hs h) id
      have hsb : ((s : Int) != 0) = false := by simp [hs]
      have hnb : (i.name == []) = false := by simp [hn]
      have hnb2 : i.name.isEmpty = false := by simp [hn]
      clear h0 hn hs
      go_wp2_with fail
      go_ret
      exact HNO.out _ HQ.out rfl
    · have hsb : ((s : Int) != 0) = true := by simp; omega
      clear h0 hs
      go_wp2_with fail
      go_ret
      exact HNO.out _ HQ.out rfl
  · have hs : s = 0 := by omega
    have hn : i.name = [] := by
      by_cases e : i.name = []
      · exact e
      · exact absurd (.inr e) h0
    have hsb : ((s : Int) != 0) = false := by simp [hs]
    have hnb : (i.name == []) = true := by simp [hn]
    have hnb2 : i.name.isEmpty = true := by simp [hn]
    have H0 := Lib.hid h0
    clear h0 hs hn
    go_enter Tryd.func31, Tryd.ntmps31
    by_cases hl : ws.length = 1
    · obtain ⟨n, rfl⟩ : ∃ n, ws = [n] := by
        match ws, hl with
        | [n], _ => exact ⟨n, rfl⟩
      obtain ⟨ad, rfl, hadl, hadO, hq⟩ := Src.at hw (j := 0) (by simp)
      rw [Addr_add_zero] at hq
      have hq0 : w.cell? ad = some (.string ⟨n.toArray⟩) := by simpa [strs] using hq
      clear hq
      have hls : ([n] : List Wd).length = 1 := rfl
      have hIs := im_IsName w n (fun h16 w' t => hV n w' h16 t)
      clear hl hV
      go_wp2_with fail
      refine hIs.mono ?_
      rintro e w1 ⟨rfl, t1⟩
      have e0 := (t1.cell (cell_lt d0) (by simp)).trans d0
      have eq0 := (t1.cell (p := ad) hadl (by simp)).trans hq0
      have ef : ∀ j, w1.frozen? ⟨b, j, none⟩ = false := fun j => (t1.frozen (p := ⟨b, j, none⟩) (show b < _ from cell_lt d0) (by simp)).trans (hf j)
      cases hnm : nameB n
      · have hq : appletT UU i s [n] = none := by unfold appletT; rw [if_neg H0.out]; simp [UU, hnm]
        have HQ := Lib.hid hq
        clear hq
        go_wp2_with fail
        go_ret
        have := H.out.tch0 t1
        rw [HQ.out]
        exact STx.no rfl this.sh t1.nil
      · have hq : appletT UU i s [n] = some ({ i with name := n }, s) := by unfold appletT; rw [if_neg H0.out]; simp [UU, hnm]
        have HQ := Lib.hid hq
        clear hq
        go_wp2_with fail
        go_ret
        rw [HQ.out]
        have t2 : Tch [b] w1 (w1.setCell ⟨b, 0, none⟩ (.string ⟨n.toArray⟩)) := (Tch.refl [b] w1).setCell (.inl (by simp)) _
        refine STx.yes rfl (O' := O) ⟨vf, vi, vm, ve, ?_, ((HI.out.2.tch0 t1).setb t2).name n⟩ (t1.trans t2 (by simp) (fun k _ hk => by simp at hk; subst hk; exact hbO)) (NewL.refl _ _)
        exact set7 ((t1.block b (heap_lt HI.out.1) (by simp)).trans HI.out.1) 0 _
    · have hq : appletT UU i s ws = none := by
        unfold appletT; rw [if_neg H0.out]
        match ws, hl with
        | [], _ => rfl
        | [n], hl => simp at hl
        | _ :: _ :: _, _ => rfl
      have HQ := Lib.hid hq
      have hlb : ((ws.length : Int) != 1) = true := by simp; omega
      clear hq hl
      go_wp2_with fail
      go_ret
      exact HNO.out _ HQ.out rfl
end Go.Proofs.YteebapopeaafhaaDoor
namespace Go.Proofs.YteebapopeaafhaaDoor
open Go.RowKit Go.Tcn
set_option linter.unusedVariables false
set_option linter.unusedSimpArgs false
/-- From a world to the one behind reach. -/
theorem PTx.cells {w : World} {b : Nat} {O : List Nat} {i : Img} {s : Nat} {f : Bool} (h : PTx w b O i s f) : ∃ vf vi vm ve, w.heap[b]? = some (.cells #[.string ⟨i.name.toArray⟩, vf, vi, vm, ve, .int .i64 s, .bool f] 43 (0, 0)) ∧ Tcn.IO 3 57 52 54 w b O vf vi vm ve i := h
theorem STx.go {w w1 w2 : World} {b : Nat} {O O' : List Nat} {f : Bool} {e : Ending} {i : Img} {s : Nat} (he : e = .returned (.bool true)) (h : PTx w2 b O' i s f) (t1 : Tch O w w1) (t2 : Tch O w1 w2) (n : NewL w1 O O') : STx w w2 b O f (some (i, s)) e :=
  STx.yes he h (t1.trans t2 (fun _ _ h => h) (fun _ _ h => h)) (fun k hk => (n k hk).imp id (fun h => Nat.le_trans t1.size h))
theorem reach_yes {i : Img} {s s' : Nat} (h : reachB i s s' = true) : ¬ (i.name = [] ∨ s' < s) := by
  unfold reachB at h
  simp at h
  intro hx
  rcases hx with hx | hx
  · exact h.1 hx
  · omega
theorem reach_no {i : Img} {s s' : Nat} (h : reachB i s s' = false) : i.name = [] ∨ s' < s := by
  unfold reachB at h
  by_cases hn : i.name = []
  · exact .inl hn
  · right
    simp [hn] at h
    exact h
set_option maxRecDepth 100000 in
set_option maxHeartbeats 4000000 in
theorem tx_field (w : World) (b : Nat) (O : List Nat) (i : Img) (s : Nat) (f : Bool) (h : PTx w b O i s f) (hsz : i.fields.length ≤ 1099511627776) (a0 : Option Addr) (c0 : Nat) (ws : List Wd) (hw : Src w O (.slice a0 ws.length c0) ws.length (strs ws)) (hl : ws.length ≤ 1099511627776) :
    Calls Tryd.prog 32 #[.pointer (some ⟨b, 0, none⟩), .slice a0 ws.length c0] w fun e w' => STx w w' b O f (fieldT UU i s ws) e := by
  obtain ⟨i0, hi, hz0, hz1, hz2⟩ := info_parts info_intT
  have hk := tx_kinds w O a0 c0 ws hw hl
  go_enter Tryd.func32, Tryd.ntmps32
  go_wp2_with fail
  refine hk.mono ?_
  rintro e w1 ⟨t1, hk1⟩
  have h1 := h.tch0 t1
  have hr := tx_reach w1 b O i s 1 f h1
  have hbl := h.lt
  have hbO := h.b
  clear hk
  unfold KindsTo at hk1
  cases hkp : kindsP UU ws with
  | none =>
    rw [hkp] at hk1
    subst hk1
    have hq : fieldT UU i s ws = none := by unfold fieldT; rw [hkp]; simp
    have HQ := Lib.hid hq
    clear hq
    go_wp2_with fail
    refine hr.mono ?_
    rintro e w2 ⟨rfl, t2, h2⟩
    have tt : Tch O w w2 := t1.trans t2 (by simp) (fun k _ hk => by simp at hk; subst hk; exact hbO)
    have HH := Lib.hid (And.intro tt h2.sh)
    clear tt h2 t2 t1 h1 hr
    cases hrb : reachB i s 1
    · go_wp2_with fail
      go_ret
      rw [HQ.out]
      exact STx.no rfl HH.out.2 HH.out.1
    · go_wp2_with fail
      go_ret
      rw [HQ.out]
      exact STx.no rfl HH.out.2 HH.out.1
  | some l =>
    rw [hkp] at hk1
    obtain ⟨v, rfl, hv⟩ := hk1
    obtain ⟨al, cl, rfl⟩ := ownsRow_form hv.1
    go_wp2_with fail
    refine hr.mono ?_
    rintro e w2 ⟨rfl, t2, h2⟩
    have tt : Tch O w w2 := t1.trans t2 (by simp) (fun k _ hk => by simp at hk; subst hk; exact hbO)
    cases hrb : reachB i s 1
    · have hq : fieldT UU i s ws = none := by unfold fieldT; rw [if_pos (reach_no hrb)]
      have HH := Lib.hid (And.intro hq (And.intro tt h2.sh))
      clear hq tt h2 t2 t1 h1 hr hv
      go_wp2_with fail
      go_ret
      rw [HH.out.1]
      exact STx.no rfl HH.out.2.2 HH.out.2.1
    · rw [hrb, if_pos rfl] at h2
      by_cases hl1 : l.length = 1
      · obtain ⟨k, rfl⟩ : ∃ k, l = [k] := by
          match l, hl1 with
          | [k], _ => exact ⟨k, rfl⟩
        have hq : fieldT UU i s ws = some ({ i with fields := i.fields ++ [k] }, 1) := by unfold fieldT; rw [if_neg (reach_yes hrb), hkp]
        obtain ⟨vf, vi, vm, ve, q1, q2⟩ := h2.cells
        obtain ⟨d0, d1, d2, d3, d4, d5, d6, hf⟩ := cells7 q1
        have hown := q2.ownF
        have hneb := q2.neF
        have hsrc : Src w2 [b] (.slice al 1 cl) 1 (ints [k]) := (hv.src [b] (by intro k hk; simp at hk; subst hk; exact hbl)).tch t2 (fun _ h _ => h)
        have hbnd : i.fields.length + 1 ≤ 9223372036854775807 ∧ (i.fields.length + 1) * 8 ≤ 140737488355328 := by omega
        have hb2 := heap_lt q1
        have hneb' : some b ≠ vf.ownBlock := fun h => hneb h.symm
        have HH := Lib.hid (And.intro hq (And.intro tt (And.intro q1 q2)))
        clear hq tt q1 q2 h2 hv h1 hr t2 t1 hl1 hkp
        go_wp2_with (first | (at_builtin; refine wpList_append_any _ rfl (.tmp 29) (.tmp 30) 22 rfl 3 i0 (.int .i64 0) 1 8 Tryd.underlying22 hi hz0 hz1 hz2 rfl (by decide) vf i.fields.length (ints i.fields) rfl hown [b] _ 1 (ints [k]) rfl hsrc rfl (ints_one _) hbnd ?_; intro ao cap w3 hown3 hgrow hat; have f1 := (hgrow.frozen_far ⟨b, 1, none⟩ hb2 hneb').trans (hf 1); have e1 := (hgrow.cell_far ⟨b, 1, none⟩ hb2 hneb').trans d1) | fail)
        go_ret
        obtain ⟨hq, tt, q1, q2⟩ := HH.out
        obtain ⟨O', g1, g2, g3⟩ := PT1.put q1 (q2.putF hb2 ⟨hown3, hgrow, hat⟩) (hgrow.block b hb2 hneb') hbO 1 _ rfl
        rw [hq]
        exact STx.go rfl g1 tt g2 g3
      · have hq : fieldT UU i s ws = none := by
          unfold fieldT; rw [if_neg (reach_yes hrb), hkp]
          match l, hl1 with
          | [], _ => rfl
          | [_], h => simp at h
          | _ :: _ :: _, _ => rfl
        have hlb : ((l.length : Int) != 1) = true := by simp; omega
        have HH := Lib.hid (And.intro hq (And.intro tt h2.sh))
        clear hq tt h2 t2 t1 h1 hr hv hl1
        go_wp2_with fail
        go_ret
        rw [HH.out.1]
        exact STx.no rfl HH.out.2.2 HH.out.2.1
end Go.Proofs.YteebapopeaafhaaDoor
