/-
  CONTRACTS: image: an applet's parts, read. Conditions: the reader's bytes lie in blocks that nobody turns.
  CONTRACTS: image: an applet's parts, read: strings, imports, methods. Conditions: the reader's bytes lie in blocks that nobody turns.
  CONTRACTS: image: an applet's parts, read: methods. Conditions: the reader's bytes lie in blocks that nobody turns.
  CONTRACTS: image.Read's closures: an import, a method more. Conditions: the reader's bytes lie in blocks that nobody turns.
  CONTRACTS: image.Read: bytes as an applet. Conditions: utf8's tables as they are laid; sizes of 64 bits.
-/
import Derived.Test.YteebapopeaafhaaGreatDoorHImr
import Derived.Test.YteebapopeaafhaaGreatDoorHCodeP
import Derived.Test.YteebapopeaafhaaGreatDoorHLay
import Derived.Test.YteebapopeaafhaaGreatDoorHImP
import Derived.Deep.RegionHeld3
import Derived.Deep.DeepCutAuto
namespace Go.Tcn
open Go.RowKit
set_option linter.unusedVariables false
set_option linter.unusedSimpArgs false
/-- Reading's state: what is left, or the error. -/
abbrev St := Except Int (List Int)
def effE (w : Int) (k : Bool) : Int := if w ≠ 0 then w else if k then 7 else 0
/-- An applet's parts at p, with a reader at q; its bytes lie in none of L. -/
structure PSt (TP TR : TypeId) (w : World) (p q : Nat) (L : List Nat) (st : St) : Prop where
  ex : ∃ l k wr, w.heap[p]? = some (.cells #[.pointer (some ⟨q, 0, none⟩), .int .i64 wr] TP (0, 0)) ∧ Rd w TR q L l k ∧ l.length ≤ 8192 ∧ p ≠ q ∧ (st = .ok l ∧ k = false ∧ wr = 0 ∨ ∃ e, st = .error e ∧ e ≠ 0 ∧ effE wr k = e)
theorem PSt.tch {TP TR : TypeId} {w w' : World} {p q : Nat} {L L' : List Nat} {st : St} (h : PSt TP TR w p q L st) (t : Tch L' w w') (hp : p ∉ L') (hq : q ∉ L') (hl : ∀ i ∈ L', i < w.heap.size → i ∈ L) : PSt TP TR w' p q L st := by
  obtain ⟨l, k, wr, h1, h2, h3, h4, h5⟩ := h.ex
  exact ⟨l, k, wr, by rw [t.block p (heap_lt h1) hp]; exact h1, h2.tch t hq hl, h3, h4, h5⟩
theorem PSt.mono {TP TR : TypeId} {w : World} {p q : Nat} {L L' : List Nat} {st : St} (h : PSt TP TR w p q L st) (hl : ∀ i ∈ L', i < w.heap.size → i ∈ L) : PSt TP TR w p q L' st := by
  obtain ⟨l, k, wr, h1, h2, h3, h4, h5⟩ := h.ex
  exact ⟨l, k, wr, h1, h2.mono hl, h3, h4, h5⟩
theorem PSt.lt {TP TR : TypeId} {w : World} {p q : Nat} {L : List Nat} {st : St} (h : PSt TP TR w p q L st) : p < w.heap.size ∧ q < w.heap.size ∧ p ≠ q := by
  obtain ⟨l, k, wr, h1, h2, h3, h4, h5⟩ := h.ex
  exact ⟨heap_lt h1, h2.lt, h4⟩
theorem PSt.cell {TP TR : TypeId} {w : World} {p q : Nat} {L : List Nat} {st : St} (h : PSt TP TR w p q L st) : w.cell? ⟨p, 0, none⟩ = some (.pointer (some ⟨q, 0, none⟩)) := by
  obtain ⟨l, k, wr, h1, _⟩ := h.ex
  simp [World.cell?, h1]
/-- A box of cells, the c-th a slice of the call's own. -/
structure OB (w : World) (T E : TypeId) (sz g c row : Nat) (cs : Array Value) (n : Nat) (xs : List Value) : Prop where
  ex : ∃ v, w.heap[g]? = some (.cells (cs.setIfInBounds c v) T (0, 0)) ∧ w.ownsRow 0 E sz v n xs ∧ row = v.ownBlock.getD g ∧ v.ownBlock ≠ some g
theorem OB.lt {w : World} {T E : TypeId} {sz g c row : Nat} {cs : Array Value} {n : Nat} {xs : List Value} (h : OB w T E sz g c row cs n xs) : g < w.heap.size := by
  obtain ⟨v, hv, _⟩ := h.ex
  exact heap_lt hv
theorem OB.row_lt {w : World} {T E : TypeId} {sz g c row : Nat} {cs : Array Value} {n : Nat} {xs : List Value} (h : OB w T E sz g c row cs n xs) : row < w.heap.size := by
  have hl := h.lt
  obtain ⟨v, hv, ho, hr, hn⟩ := h.ex
  rw [hr]
  cases hb : v.ownBlock with
  | none => exact hl
  | some k => exact (World.ownsRow.lt ho k hb).2
theorem OB.tch {w w' : World} {T E : TypeId} {sz g c row : Nat} {cs : Array Value} {n : Nat} {xs : List Value} {L : List Nat} (h : OB w T E sz g c row cs n xs) (t : Tch L w w') (hg : g ∉ L) (hr : row ∉ L) : OB w' T E sz g c row cs n xs := by
  have hlt := h.lt
  obtain ⟨v, hv, ho, hro, hn⟩ := h.ex
  refine ⟨v, by rw [t.block g hlt hg]; exact hv, ownsRow_tch ho t (fun k hk => ?_), hro, hn⟩
  rw [hk] at hro
  simp at hro
  exact hro ▸ hr
theorem OB.nil (w : World) (T E : TypeId) (sz c : Nat) (cs : Array Value) : OB (w.alloc (.cells (cs.setIfInBounds c (.slice none 0 0)) T)) T E sz w.heap.size c w.heap.size cs 0 [] :=
  ⟨.slice none 0 0, heap_alloc_new w _, World.ownsRow_nil _ _ _ _, rfl, by simp [Value.ownBlock]⟩
theorem OB.grow {w w0 w1 : World} {T E : TypeId} {sz g c : Nat} {cs : Array Value} {xs news : List Value} {v0 v1 : Value} (hv : w.heap[g]? = some (.cells (cs.setIfInBounds c v0) T (0, 0))) (hne : v0.ownBlock ≠ some g)
    (h0 : Tch [] w w0) (hg : w0.grownBy w1 v0.ownBlock) (n : Nat) (ho : w1.ownsRow 0 E sz v1 n (xs ++ news)) (hat : v1.ownBlock = v0.ownBlock ∨ v1.ownBlock = some w0.heap.size) :
    ∃ row', OB (w1.setCell ⟨g, c, none⟩ v1) T E sz g c row' cs n (xs ++ news) ∧ (row' = v0.ownBlock.getD g ∨ w.heap.size ≤ row') ∧ Tch [g, v0.ownBlock.getD g] w (w1.setCell ⟨g, c, none⟩ v1) := by
  have hlt := heap_lt hv
  have hs := h0.size
  have hp1 : w1.heap[g]? = some (.cells (cs.setIfInBounds c v0) T (0, 0)) := by
    rw [hg.block g (by omega) (fun e => hne e.symm), h0.block g hlt (by simp)]; exact hv
  have hne1 : v1.ownBlock ≠ some g := by
    rcases hat with h | h
    · rw [h]; exact hne
    · rw [h]; simp; omega
  refine ⟨v1.ownBlock.getD g, ⟨v1, ?_, ?_, rfl, hne1⟩, ?_, ?_⟩
  · simp [World.setCell, Array.getElem?_modify, hp1]
  · exact ownsRow_setCell_other ho hne1 _
  · rcases hat with h | h
    · left; rw [h]
    · right; rw [h]; simpa using hs
  · refine Tch.setCell ((h0.mono (M := [g, v0.ownBlock.getD g]) (by simp)).grown hg (fun k hk => ?_)) (by simp) _
    left; rw [hk]; simp
end Go.Tcn
namespace Go.Proofs.YteebapopeaafhaaGreatDoor
open Go.RowKit Go.Tcn
set_option linter.unusedVariables false
set_option linter.unusedSimpArgs false
end Go.Proofs.YteebapopeaafhaaGreatDoor
namespace Go.Tcn
open Go.RowKit
set_option linter.unusedVariables false
set_option linter.unusedSimpArgs false
end Go.Tcn
namespace Go.Proofs.YteebapopeaafhaaGreatDoor
open Go.RowKit Go.Tcn
set_option linter.unusedVariables false
set_option linter.unusedSimpArgs false
end Go.Proofs.YteebapopeaafhaaGreatDoor
namespace Go.Tcn
open Go.RowKit
set_option linter.unusedVariables false
set_option linter.unusedSimpArgs false
/-- Four cells of a block that may be written. -/
structure B4 (w : World) (g : Nat) (x0 x1 x2 x3 : Value) : Prop where
  c0 : w.cell? ⟨g, 0, none⟩ = some x0
  c1 : w.cell? ⟨g, 1, none⟩ = some x1
  c2 : w.cell? ⟨g, 2, none⟩ = some x2
  c3 : w.cell? ⟨g, 3, none⟩ = some x3
  f0 : w.frozen? ⟨g, 0, none⟩ = false
  f1 : w.frozen? ⟨g, 1, none⟩ = false
  f2 : w.frozen? ⟨g, 2, none⟩ = false
  f3 : w.frozen? ⟨g, 3, none⟩ = false
theorem B4.tch {w w' : World} {L : List Nat} {g : Nat} {x0 x1 x2 x3 : Value} (h : B4 w g x0 x1 x2 x3) (t : Tch L w w') (hg : g ∉ L) : B4 w' g x0 x1 x2 x3 :=
  ⟨by rw [t.cell (cell_lt h.c0) hg]; exact h.c0, by rw [t.cell (cell_lt h.c1) hg]; exact h.c1, by rw [t.cell (cell_lt h.c2) hg]; exact h.c2, by rw [t.cell (cell_lt h.c3) hg]; exact h.c3,
    by rw [t.frozen (cell_lt h.c0) hg]; exact h.f0, by rw [t.frozen (cell_lt h.c1) hg]; exact h.f1, by rw [t.frozen (cell_lt h.c2) hg]; exact h.f2, by rw [t.frozen (cell_lt h.c3) hg]; exact h.f3⟩
theorem B4.new (w : World) (x0 x1 x2 x3 : Value) (T : TypeId) : B4 (w.alloc (.cells #[x0, x1, x2, x3] T)) w.heap.size x0 x1 x2 x3 := ⟨by simp [go_sem], by simp [go_sem], by simp [go_sem], by simp [go_sem], by simp [go_sem], by simp [go_sem], by simp [go_sem], by simp [go_sem]⟩
end Go.Tcn
namespace Go.Proofs.YteebapopeaafhaaGreatDoor
open Go.RowKit Go.Tcn
set_option linter.unusedVariables false
set_option linter.unusedSimpArgs false
end Go.Proofs.YteebapopeaafhaaGreatDoor
namespace Go.Tcn
open Go.RowKit
set_option linter.unusedVariables false
set_option linter.unusedSimpArgs false
theorem box_setc {w : World} {g : Nat} {cs : Array Value} {T : TypeId} (h : w.heap[g]? = some (.cells cs T (0, 0))) (j : Nat) (u : Value) : (w.setCell ⟨g, j, none⟩ u).heap[g]? = some (.cells (cs.setIfInBounds j u) T (0, 0)) := by
  simp [World.setCell, Array.getElem?_modify, h]
theorem B4.of {w : World} {g : Nat} {x0 x1 x2 x3 : Value} {T : TypeId} (h : w.heap[g]? = some (.cells #[x0, x1, x2, x3] T (0, 0))) : B4 w g x0 x1 x2 x3 := by
  constructor <;> simp [World.cell?, World.frozen?, h]
end Go.Tcn
namespace Go.Proofs.YteebapopeaafhaaGreatDoor
open Go.RowKit Go.Tcn
set_option linter.unusedVariables false
set_option linter.unusedSimpArgs false
end Go.Proofs.YteebapopeaafhaaGreatDoor
namespace Go.Tcn
open Go.RowKit
set_option linter.unusedVariables false
set_option linter.unusedSimpArgs false
/-- A box of cells, the c-th a slice of the call's own, of things that read as xs; none of their blocks is one of M. -/
structure OL {α : Type} (w : World) (T E : TypeId) (sz g c row : Nat) (cs : Array Value) (M : List Nat) (R : World → List Nat → List Value → α → Prop) (xs : List α) : Prop where
  ex : ∃ css : List (List Value), css.length = xs.length ∧ (∀ d ∈ css, d.length = sz) ∧ OB w T E sz g c row cs xs.length css.flatten ∧ ∀ (k : Nat) d x, css[k]? = some d → xs[k]? = some x → R w (row :: M) d x
theorem OL.tch {α : Type} {w w' : World} {T E : TypeId} {sz g c row : Nat} {cs : Array Value} {M L : List Nat} {R : World → List Nat → List Value → α → Prop} {xs : List α} (hR : ∀ d x, R w (row :: M) d x → R w' (row :: M) d x) (h : OL w T E sz g c row cs M R xs) (t : Tch L w w') (hg : g ∉ L) (hr : row ∉ L) : OL w' T E sz g c row cs M R xs := by
  obtain ⟨css, h1, h2, h3, h4⟩ := h.ex
  exact ⟨css, h1, h2, h3.tch t hg hr, fun k d x a b => hR _ _ (h4 k d x a b)⟩
end Go.Tcn
namespace Go.Proofs.YteebapopeaafhaaGreatDoor
open Go.RowKit Go.Tcn
set_option linter.unusedVariables false
set_option linter.unusedSimpArgs false
end Go.Proofs.YteebapopeaafhaaGreatDoor
namespace Go.Tcn
open Go.RowKit
set_option linter.unusedVariables false
set_option linter.unusedSimpArgs false
end Go.Tcn
namespace Go.Proofs.YteebapopeaafhaaGreatDoor
open Go.RowKit Go.Tcn
set_option linter.unusedVariables false
set_option linter.unusedSimpArgs false
end Go.Proofs.YteebapopeaafhaaGreatDoor
namespace Go.Tcn
open Go.RowKit
set_option linter.unusedVariables false
set_option linter.unusedSimpArgs false
/-- Five cells of a block that may be written. -/
structure F5 (w : World) (g : Nat) (x0 x1 x2 x3 x4 : Value) : Prop where
  c0 : w.cell? ⟨g, 0, none⟩ = some x0
  c1 : w.cell? ⟨g, 1, none⟩ = some x1
  c2 : w.cell? ⟨g, 2, none⟩ = some x2
  c3 : w.cell? ⟨g, 3, none⟩ = some x3
  c4 : w.cell? ⟨g, 4, none⟩ = some x4
  f0 : w.frozen? ⟨g, 0, none⟩ = false
  f1 : w.frozen? ⟨g, 1, none⟩ = false
  f2 : w.frozen? ⟨g, 2, none⟩ = false
  f3 : w.frozen? ⟨g, 3, none⟩ = false
  f4 : w.frozen? ⟨g, 4, none⟩ = false
theorem F5.of {w : World} {g : Nat} {x0 x1 x2 x3 x4 : Value} {T : TypeId} (h : w.heap[g]? = some (.cells #[x0, x1, x2, x3, x4] T (0, 0))) : F5 w g x0 x1 x2 x3 x4 := by
  constructor <;> simp [World.cell?, World.frozen?, h]
/-- What a box of things reads as. -/
theorem OL.reads {α : Type} {w : World} {T E : TypeId} {sz g c row : Nat} {cs : Array Value} {M : List Nat} {R : World → List Nat → List Value → α → Prop} {xs : List α} (h : OL w T E sz g c row cs M R xs) (M' : List Nat) (hr : row ∉ M' ∨ row = g) (hR : ∀ d x, R w (row :: M) d x → R w M' d x) :
    ∃ ao cap, w.heap[g]? = some (.cells (cs.setIfInBounds c (.slice ao xs.length cap)) T (0, 0)) ∧ RL w M' sz (R w M') (.slice ao xs.length cap) xs := by
  obtain ⟨css, h1, h2, h3, h4⟩ := h.ex
  obtain ⟨v, hv, hown, hrow, hne⟩ := h3.ex
  obtain ⟨ao, cap, rfl⟩ := ownsRow_form hown
  refine ⟨ao, cap, hv, ⟨css, h1, h2, src_of_owns hown M' (fun k hk hx => ?_), fun k d x a b => hR _ _ (h4 k d x a b)⟩⟩
  rw [hk] at hrow hne
  simp at hrow hne
  rcases hr with hr | hr
  · exact hr (hrow ▸ hx)
  · omega
end Go.Tcn
namespace Go.Proofs.YteebapopeaafhaaGreatDoor
open Go.RowKit Go.Tcn
set_option linter.unusedVariables false
set_option linter.unusedSimpArgs false
end Go.Proofs.YteebapopeaafhaaGreatDoor
