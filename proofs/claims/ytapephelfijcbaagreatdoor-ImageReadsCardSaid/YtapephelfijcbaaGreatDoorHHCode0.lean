/-
  HELPERS over any program: raw statements or instructions, as they lie. Conditions: none.
  HELPERS and the FIRST HALF of Code of taciturnhand. Conditions: none.
-/
import Derived.Test.YtapephelfijcbaaGreatDoorHCodeP
import Derived.Test.YtapephelfijcbaaGreatDoorHAny
namespace Go.Tcn
open Go.RowKit
set_option linter.unusedVariables false
set_option linter.unusedSimpArgs false
abbrev Rw := Int × Int × Int × Int
def rawCells (x : Rw) : Array Value := #[.int .i64 x.1, .int .i64 x.2.1, .int .i64 x.2.2.1, .int .i64 x.2.2.2]
/-- Raw instructions, as they lie. -/
structure Raws (w : World) (v : Value) (l : List Rw) : Prop where
  ex : ∃ ao cap, v = .slice ao l.length cap ∧ l.length ≤ 9223372036854775807 ∧ ∀ (k : Nat) x, l[k]? = some x → ∃ ad, ao = some ad ∧ ad.block < w.heap.size ∧ ∀ (j : Nat) u, (rawCells x).toList[j]? = some u → w.cell? ((ad.add (k * 4)).add j) = some u
  rng : ∀ x ∈ l, I6 x.1 ∧ I6 x.2.1 ∧ I6 x.2.2.1 ∧ I6 x.2.2.2
theorem Raws.tch {w w' : World} {v : Value} {l : List Rw} (h : Raws w v l) (t : Tch [] w w') : Raws w' v l := by
  obtain ⟨ao, cap, h1, h2, h3⟩ := h.ex
  refine ⟨⟨ao, cap, h1, h2, fun k x hk => ?_⟩, h.rng⟩
  obtain ⟨ad, e, hl, hc⟩ := h3 k x hk
  refine ⟨ad, e, Nat.lt_of_lt_of_le hl t.size, fun j u hj => ?_⟩
  rw [t.cell (by rw [Addr_add_block, Addr_add_block]; exact hl) (by simp)]
  exact hc j u hj
theorem choose_lt4 {α : Type} {n : Nat} {p : Nat → α → Prop} [Inhabited α] (h : ∀ i, i < n → ∃ x, p i x) : ∃ f : Nat → α, ∀ i, i < n → p i (f i) := by
  refine ⟨fun i => if hi : i < n then (h i hi).choose else default, fun i hi => ?_⟩
  simp only [hi, dif_pos]
  exact (h i hi).choose_spec
end Go.Tcn
namespace Go.Tcn
open Go.RowKit
set_option linter.unusedVariables false
set_option linter.unusedSimpArgs false
/-- The initial data of package taciturnhand, as the maker asks it. -/
def Bins (w : World) (G : Nat) : Prop := ∀ j, j < 12 → ∃ op : Int, (6 ≤ op ∧ op ≤ 14 ∨ 19 ≤ op ∧ op ≤ 21) ∧ w.cell? ⟨G, j, none⟩ = some (.int .i64 op)
theorem Bins.tch {w w' : World} {G : Nat} (h : Bins w G) (t : Tch [] w w') : Bins w' G := fun j hj => by
  letI : OkP := ⟨true, []⟩
  obtain ⟨op, h1, h2⟩ := h j hj
  exact ⟨op, h1, tch_cell' t h2⟩
theorem Bins.lt {w : World} {G : Nat} (h : Bins w G) : G < w.heap.size := by obtain ⟨op, _, h2⟩ := h 0 (by omega); exact cell_lt h2
def numsOf (l : List Rw) : List Int := (l.map (fun x => [x.2.1, x.2.2.1, x.2.2.2])).flatten
theorem numsOf_take (l : List Rw) (k : Nat) (hk : k < l.length) : numsOf (l.take (k + 1)) = numsOf (l.take k) ++ [l[k].2.1, l[k].2.2.1, l[k].2.2.2] := by
  have e : l.take (k + 1) = l.take k ++ [l[k]] := (List.take_append_getElem hk).symm
  rw [e]; unfold numsOf; rw [List.map_append, List.flatten_append]; rfl
theorem numsOf_len (l : List Rw) : (numsOf l).length = 3 * l.length := by
  induction l with
  | nil => rfl
  | cons x l ih => simp [numsOf] at ih ⊢; omega
/-- The maker while its numbers come in. -/
structure Mn (T E : TypeId) (w : World) (p : Nat) (vn : Value) (n : List Int) (kd : List Int) : Prop where
  ex : ∃ vk, w.heap[p]? = some (.cells #[.slice none 0 0, vn, .int .i64 (0 : Nat), vk, .int .i64 0] T (0, 0)) ∧ w.ownsRow 0 E 1 vn n.length (ints n) ∧ vn.ownBlock ≠ some p ∧ Src w (p :: vn.ownBlock.toList) vk kd.length (ints kd)
/-- All numbers are in: the maker begins. -/
theorem Mn.mk' {T E E' : TypeId} {G : Nat} {w : World} {p : Nat} {vn : Value} {n kd : List Int} (h : Mn T E w p vn n kd) (b : Bool) (hG : G ≠ p) (hb : Bins w G) : @Mk ⟨b, []⟩ T E' G w p p [] n 0 kd 0 := by
  obtain ⟨vk, hv0, ho, hne, hvk⟩ := h.ex
  have e1 : Src w [p, p] vn n.length (ints n) := src_of_owns ho _ (fun k hk hx => by
    simp at hx; subst hx; exact hne hk)
  have e2 : Src w [p, p] vk kd.length (ints kd) := Src.mono hvk (fun i hi _ => by
    simp at hi; simp [hi])
  exact @Mk.mk ⟨b, []⟩ T E' G w p p [] n 0 kd 0 ⟨.slice none 0 0, vn, vk, hv0, World.ownsRow_nil _ _ _ _, rfl, by simp [Value.ownBlock], e1, e2⟩ (.inl (by simp)) ⟨hG, hG⟩ hb
theorem Src.init {w : World} {L : List Nat} {ao : Option Addr} {m cap : Nat} {xs : List Value} {x : Value} (h : Src w L (.slice ao (m + 1) cap) (m + 1) (xs ++ [x])) : Src w L (.slice ao m cap) m xs := by
  rcases h.ex with ⟨_, _, h3⟩ | ⟨ad, c', h1, h2, h3⟩
  · simp at h3
  · simp only [Value.slice.injEq] at h1
    obtain ⟨rfl, _, rfl⟩ := h1
    exact ⟨.inr ⟨ad, _, rfl, by omega, fun j u hj => h3 j u (by rw [List.getElem?_append_left (List.getElem?_eq_some_iff.1 hj).1]; exact hj)⟩⟩
theorem Mk.refar {b : Bool} {F F' : List Nat} {T E : TypeId} {G : Nat} {w : World} {p row : Nat} {c : List Ins} {n : List Int} {q : Nat} {kd : List Int} {d : Int} (h : @Mk ⟨b, F⟩ T E G w p row c n q kd d) (hF : ∀ i ∈ F', i < w.heap.size → i ∈ F) : @Mk ⟨b, F'⟩ T E G w p row c n q kd d := by
  obtain ⟨⟨vc, vn, vk, hv, ho, hrow, hne, hn, hk⟩, hok, hgp, hb⟩ := h
  have hm : ∀ i ∈ p :: row :: F', i < w.heap.size → i ∈ p :: row :: F := fun i hi hlt => by
    simp only [List.mem_cons] at hi ⊢
    rcases hi with h | h | h
    · exact .inl h
    · exact .inr (.inl h)
    · exact .inr (.inr (hF i h hlt))
  exact @Mk.mk ⟨b, F'⟩ T E G w p row c n q kd d ⟨vc, vn, vk, hv, ho, hrow, hne, Src.mono (L := p :: row :: F) (L' := p :: row :: F') hn hm, Src.mono (L := p :: row :: F) (L' := p :: row :: F') hk hm⟩ hok hgp hb
/-- Blocks that are far may turn. -/
theorem Mk.turn {b : Bool} {F : List Nat} {T E : TypeId} {G : Nat} {w w' : World} {p row : Nat} {c : List Ins} {n : List Int} {q : Nat} {kd : List Int} {d : Int} (h : @Mk ⟨b, F⟩ T E G w p row c n q kd d) (t : Tch F w w') (hF : ∀ i ∈ F, i ≠ p ∧ i ≠ row ∧ i ≠ G) : @Mk ⟨b, F⟩ T E G w' p row c n q kd d := by
  letI : OkP := ⟨b, F⟩
  have hp := h.lt
  obtain ⟨vc, vn, vk, hv, ho, hrow, hne, hn, hk⟩ := h.ex
  have hm : ∀ i ∈ F, i < w.heap.size → i ∈ p :: row :: F := fun i hi _ => List.mem_cons_of_mem _ (List.mem_cons_of_mem _ hi)
  refine ⟨⟨vc, vn, vk, ?_, ownsRow_tch ho t (fun g hg hx => ?_), hrow, hne, hn.tch t hm, hk.tch t hm⟩, h.ok, h.gp, fun j hj => ?_⟩
  · rw [t.block p hp (fun hx => (hF p hx).1 rfl)]; exact hv
  · have h1 := hF g hx
    rw [hg] at hrow; simp at hrow; omega
  · obtain ⟨op, h1, h2⟩ := h.bins j hj
    exact ⟨op, h1, by rw [t.cell (cell_lt h2) (fun hx => (hF _ hx).2.2 rfl)]; exact h2⟩
end Go.Tcn
namespace Go.Proofs.YtapephelfijcbaaGreatDoor
open Go.RowKit Go.Tcn
set_option linter.unusedVariables false
set_option linter.unusedSimpArgs false

end Go.Proofs.YtapephelfijcbaaGreatDoor
