/-
  HELPERS of this seat's proofs, over any program: what a call may touch, and rows that a call owns. Conditions: none.
  HELPERS over any program: how applets, methods, imports and codes lie in memory. Conditions: none.
  HELPERS over any program: what reads as applets may be said of fewer blocks. Conditions: none.
  HELPERS over any program: blocks of three and four cells; readers kept. Conditions: none.
  HELPERS over any program: a region that draws its order and whose calls make memory but touch nothing old: one walk serves every order. Conditions: none.
  PLAIN LAWS: the instructions' names, their operands and ranges, their bytes. Conditions: none.
-/
import Derived.WalkKit
import Derived.WalkSpells
import Derived.WalkLawsBesides
import Derived.Lib.Hide
import Derived.Deep.AppendLies
import Derived.Deep.RegionLaw
import Derived.Laws.AppendOwnNone
import Derived.Laws.BytesArg
import Derived.Lib.SlBytesConst
import Derived.Deep.QuietTactic
import Derived.BigQuiet
import Derived.Deep.CutBlock
import Derived.Deep.DeepCutAuto
namespace Go.Tcn
open Go.RowKit
set_option linter.unusedVariables false
set_option linter.unusedSimpArgs false

/-- From w to w' no block has turned but those of L, and new ones have come. -/
structure Tch (L : List Nat) (w w' : World) : Prop where
  os : w'.os = w.os
  tape : w'.tape = w.tape
  output : w'.output = w.output
  size : w.heap.size ≤ w'.heap.size
  block : ∀ k, k < w.heap.size → k ∉ L → w'.heap[k]? = w.heap[k]?

theorem Tch.refl (L : List Nat) (w : World) : Tch L w w := ⟨rfl, rfl, rfl, Nat.le_refl _, fun _ _ _ => rfl⟩
theorem Tch.trans {L L' M : List Nat} {a b c : World} (h : Tch L a b) (k : Tch L' b c) (h1 : ∀ i, i < a.heap.size → i ∈ L → i ∈ M) (h2 : ∀ i, i < a.heap.size → i ∈ L' → i ∈ M) : Tch M a c :=
  ⟨k.os.trans h.os, k.tape.trans h.tape, k.output.trans h.output, Nat.le_trans h.size k.size, fun i hi hm =>
    (k.block i (Nat.lt_of_lt_of_le hi h.size) (fun hx => hm (h2 i hi hx))).trans (h.block i hi (fun hx => hm (h1 i hi hx)))⟩
theorem Tch.mono {L M : List Nat} {a b : World} (h : Tch L a b) (h1 : ∀ i, i < a.heap.size → i ∈ L → i ∈ M) : Tch M a b :=
  h.trans (Tch.refl [] b) h1 (by simp)
/-- Two steps over nothing old. -/
theorem Tch.then {a b c : World} (h : Tch [] a b) (k : Tch [] b c) : Tch [] a c := h.trans k (by simp) (by simp)
theorem Tch.nil {L : List Nat} {a b : World} (h : Tch [] a b) : Tch L a b := h.mono (by simp)
theorem Tch.drew {L : List Nat} {a b : World} (h : Tch L a b) : Tch L a b.drew := ⟨h.os, h.tape, h.output, h.size, h.block⟩
theorem Tch.drewN {L : List Nat} {a b : World} (h : Tch L a b) (n : Nat) : Tch L a (b.drewN n) := ⟨h.os, h.tape, h.output, h.size, h.block⟩
theorem Tch.alloc {L : List Nat} {a b : World} (h : Tch L a b) (o : Obj) : Tch L a (b.alloc o) :=
  h.trans (L' := []) ⟨rfl, rfl, rfl, by simp, fun k hk _ => Below.heap_alloc _ _ _ hk⟩ (fun _ _ x => x) (by simp)
theorem Tch.setCell {L : List Nat} {a b : World} (h : Tch L a b) {p : Addr} (hp : p.block ∈ L ∨ a.heap.size ≤ p.block) (u : Value) : Tch L a (b.setCell p u) :=
  h.trans (L' := [p.block]) ⟨rfl, rfl, rfl, by simp [World.setCell], fun k _ hn => Below.heap_setCell _ _ _ _ (by simpa using hn)⟩ (fun _ _ x => x) (fun i hi hx => by
    simp at hx; subst hx; rcases hp with hp | hp
    · exact hp
    · omega)
theorem Tch.grown {L : List Nat} {a b c : World} {row : Option Nat} (h : Tch L a b) (hg : b.grownBy c row) (hr : ∀ k, row = some k → k ∈ L ∨ a.heap.size ≤ k) : Tch L a c :=
  ⟨hg.os.trans h.os, hg.tape.trans h.tape, hg.output.trans h.output, Nat.le_trans h.size hg.size, fun i hi hm =>
    (hg.block i (Nat.lt_of_lt_of_le hi h.size) (fun e => by
      rcases hr i e.symm with hx | hx
      · exact hm hx
      · omega)).trans (h.block i hi hm)⟩
theorem Tch.of_below {w w' : World} (h : Below w.heap.size w w') (L : List Nat) : Tch L w w' := ⟨h.os, h.tape, h.output, h.size, fun k hk _ => h.block k hk⟩
theorem Tch.below {w w' : World} (h : Tch [] w w') : Below w.heap.size w w' := ⟨h.os, h.tape, h.output, h.size, fun k hk => h.block k hk (by simp)⟩
theorem Tch.cell {L : List Nat} {w w' : World} (h : Tch L w w') {p : Addr} (hp : p.block < w.heap.size) (hn : p.block ∉ L) : w'.cell? p = w.cell? p := World.cell?_of_block (h.block _ hp hn)
theorem Tch.frozen {L : List Nat} {w w' : World} (h : Tch L w w') {p : Addr} (hp : p.block < w.heap.size) (hn : p.block ∉ L) : w'.frozen? p = w.frozen? p := World.frozen?_of_block (h.block _ hp hn)

theorem heap_lt {w : World} {p : Nat} {o : Obj} (hv : w.heap[p]? = some o) : p < w.heap.size := by
  rcases Nat.lt_or_ge p w.heap.size with hlt | hge
  · exact hlt
  · rw [Array.getElem?_eq_none hge] at hv; cases hv
theorem cell_lt {w : World} {p : Addr} {v : Value} (hv : w.cell? p = some v) : p.block < w.heap.size := by
  unfold World.cell? at hv
  split at hv
  · rename_i h; exact heap_lt h
  · cases hv

/-- What is owned stays owned where its block has not turned. -/
theorem ownsRow_tch {w w' : World} {L : List Nat} {base : Nat} {e : TypeId} {size : Nat} {v : Value} {n : Nat} {xs : List Value} (h : w.ownsRow base e size v n xs) (ht : Tch L w w') (hn : ∀ k, v.ownBlock = some k → k ∉ L) : w'.ownsRow base e size v n xs := by
  refine ⟨h.1, ?_⟩
  have hlt := World.ownsRow.lt h
  rcases h.2 with h2 | ⟨g, cap, cur, hv, hg, hh, r⟩
  · exact Or.inl h2
  · subst hv
    have := hlt g rfl
    exact Or.inr ⟨g, cap, cur, rfl, hg, by rw [ht.block g this.2 (hn g rfl)]; exact hh, r⟩
/-- The form of an owned value. -/
theorem ownsRow_form {w : World} {base : Nat} {e : TypeId} {size : Nat} {v : Value} {n : Nat} {xs : List Value} (h : w.ownsRow base e size v n xs) : ∃ ao cap, v = .slice ao n cap := by
  rcases h.2 with ⟨rfl, rfl⟩ | ⟨g, cap, cur, rfl, _⟩
  · exact ⟨_, _, rfl⟩
  · exact ⟨_, _, rfl⟩

/-- A slice value v reads as m elements whose cells are news. Its blocks are none of L. -/
structure Src (w : World) (L : List Nat) (v : Value) (m : Nat) (news : List Value) : Prop where
  ex : (v = .slice none 0 0 ∧ m = 0 ∧ news = []) ∨ ∃ ad c, v = .slice (some ad) m c ∧ m ≤ c ∧ ∀ j u, news[j]? = some u → ad.block ∉ L ∧ w.cell? (ad.add j) = some u
theorem Addr_add_block (a : Addr) (j : Nat) : (a.add j).block = a.block := by unfold Addr.add; split <;> rfl
theorem Src.tch {w w' : World} {L L' : List Nat} {v : Value} {m : Nat} {news : List Value} (h : Src w L v m news) (ht : Tch L' w w') (hl : ∀ i ∈ L', i < w.heap.size → i ∈ L) : Src w' L v m news := by
  rcases h.ex with h | ⟨ad, c, hv, hmc, hc⟩
  · exact ⟨.inl h⟩
  · refine ⟨.inr ⟨ad, c, hv, hmc, fun j u hj => ?_⟩⟩
    obtain ⟨hn, hcj⟩ := hc j u hj
    have hlt := cell_lt hcj
    rw [Addr_add_block] at hlt
    refine ⟨hn, ?_⟩
    rw [ht.cell (by rw [Addr_add_block]; exact hlt) (by rw [Addr_add_block]; intro hx; exact hn (hl _ hx hlt))]
    exact hcj
theorem Src.mono {w : World} {L L' : List Nat} {v : Value} {m : Nat} {news : List Value} (h : Src w L v m news) (hl : ∀ i ∈ L', i < w.heap.size → i ∈ L) : Src w L' v m news := by
  rcases h.ex with h | ⟨ad, c, hv, hmc, hc⟩
  · exact ⟨.inl h⟩
  · refine ⟨.inr ⟨ad, c, hv, hmc, fun j u hj => ?_⟩⟩
    obtain ⟨hn, hcj⟩ := hc j u hj
    have hlt := cell_lt hcj
    rw [Addr_add_block] at hlt
    exact ⟨fun hx => hn (hl _ hx hlt), hcj⟩
/-- What is owned can be read. -/
theorem src_of_owns {w : World} {base : Nat} {e : TypeId} {size : Nat} {v : Value} {n : Nat} {xs : List Value} (h : w.ownsRow base e size v n xs) (L : List Nat) (hl : ∀ k, v.ownBlock = some k → k ∉ L) : Src w L v n xs := by
  have hc := fun g => World.ownsRow.cells h (g := g)
  have hlt := World.ownsRow.lt h
  rcases h with ⟨h1, h2 | ⟨g, cap, cur, hv, r⟩⟩
  · obtain ⟨h2, rfl⟩ := h2
    exact ⟨.inl ⟨h2, rfl, List.eq_nil_of_length_eq_zero (by simpa using h1)⟩⟩
  · subst hv
    exact ⟨.inr ⟨_, cap, rfl, r.2.2.1, fun j u hj => ⟨hl g rfl, hc g rfl j u hj⟩⟩⟩
theorem Src.form {w : World} {L : List Nat} {v : Value} {m : Nat} {news : List Value} (h : Src w L v m news) : ∃ ao cap, v = .slice ao m cap := by
  rcases h.ex with ⟨rfl, rfl, _⟩ | ⟨ad, c, rfl, _⟩
  · exact ⟨_, _, rfl⟩
  · exact ⟨_, _, rfl⟩

section
variable {P : Program} (w : World)
/-- append of whatever source onto what the call owns. -/
theorem run_append_any (t ty e : TypeId) (i : TypeInfo) (z : Value) (size bytes : Nat) (ht : P.underlying t = some (.slice e)) (hi : P.info? e = some i) (hz : i.zero = some z)
    (hsize : i.size = size) (hby : i.bytes = bytes) (hzs : z.cells.size = size) (hsz : 0 < size)
    (v : Value) (n : Nat) (xs : List Value) (hown : w.ownsRow 0 e size v n xs) (L : List Nat) (x : Value) (m : Nat) (news : List Value) (hsrc : Src w L x m news) (hl : news.length = m * size) (h1 : ∀ u ∈ news, u.oneCell' = true)
    (hb : (n + m) ≤ 9223372036854775807 ∧ (n + m) * bytes ≤ 140737488355328) :
    ∃ ao cap w', (Builtin.append_ #[t, t] ty #[v, x]).run P w = .ok (.slice ao (n + m) cap) w' ∧ w'.ownsRow 0 e size (.slice ao (n + m) cap) (n + m) (xs ++ news) ∧ w.grownBy w' v.ownBlock ∧
      ((Value.slice ao (n + m) cap).ownBlock = v.ownBlock ∨ (Value.slice ao (n + m) cap).ownBlock = some w.heap.size) := by
  rcases hsrc.ex with ⟨rfl, rfl, rfl⟩ | ⟨ad, c, rfl, hmc, hc⟩
  · have hrun := run_append_owned_none (P := P) (w := w) 0 t ty e i size ht hi v n xs hown
    obtain ⟨ao, cap, rfl⟩ := ownsRow_form hown
    refine ⟨ao, cap, w, hrun, by simpa using hown, ⟨rfl, rfl, rfl, Nat.le_refl _, fun _ _ _ => rfl⟩, .inl rfl⟩
  · obtain ⟨v', w', hr, h2, h3, _, h5⟩ := run_append_own_at (P := P) w 0 t ty e i z size bytes ht hi hz hsize hby hzs hsz v n xs hown ad m c news hl (fun j u hj => (hc j u hj).2) h1 (by unfold maxLen; exact hb.1) hb.2 (Nat.zero_le _)
    obtain ⟨ao, cap, rfl⟩ := ownsRow_form h2
    exact ⟨ao, cap, w', hr, h2, h3, h5⟩

theorem wp_append_any {o : Oper} {a : Act} {K : Act → World → Prop} {Q : Exit → Act → World → Prop} (s x : Operand) (t : TypeId)
    (ho : o.op = .call { callee := .builtin .append, args := #[s, x], argTypes := #[t, t] })
    (e : TypeId) (i : TypeInfo) (z : Value) (size bytes : Nat) (ht : P.underlying t = some (.slice e)) (hi : P.info? e = some i) (hz : i.zero = some z)
    (hsize : i.size = size) (hby : i.bytes = bytes) (hzs : z.cells.size = size) (hsz : 0 < size)
    (v : Value) (n : Nat) (xs : List Value) (hs : a.eval s = v) (hown : w.ownsRow 0 e size v n xs) (L : List Nat)
    (xv : Value) (m : Nat) (news : List Value) (hx : a.eval x = xv) (hsrc : Src w L xv m news) (hl : news.length = m * size) (h1 : ∀ u ∈ news, u.oneCell' = true)
    (hb : (n + m) ≤ 9223372036854775807 ∧ (n + m) * bytes ≤ 140737488355328)
    (h : ∀ ao cap w', w'.ownsRow 0 e size (.slice ao (n + m) cap) (n + m) (xs ++ news) → w.grownBy w' v.ownBlock → ((Value.slice ao (n + m) cap).ownBlock = v.ownBlock ∨ (Value.slice ao (n + m) cap).ownBlock = some w.heap.size) → K (a.put o.dst (.slice ao (n + m) cap)) w') : o.wp P a w K Q := by
  obtain ⟨ao, cap, w', hr, h2, h3, h4⟩ := run_append_any (P := P) w t o.type e i z size bytes ht hi hz hsize hby hzs hsz v n xs hown L xv m news hsrc hl h1 hb
  unfold Oper.wp execOp
  simp only [ho, resolve, invoke, builtin, Sem.run_bind, Sem.run_pure, Result.andThen_ok, List.map_toArray, List.map_cons, List.map_nil, hs, hx, hr]
  exact h ao cap w' h2 h3 h4

/-- At the list of a plain region's operations. -/
theorem wpList_append_any {ops : Array Oper} {rest : List Oper} {o : Oper} {a : Act} {Q : Exit → Act → World → Prop} (hgd : o.guard = none) (s x : Operand) (t : TypeId)
    (ho : o.op = .call { callee := .builtin .append, args := #[s, x], argTypes := #[t, t] })
    (e : TypeId) (i : TypeInfo) (z : Value) (size bytes : Nat) (ht : P.underlying t = some (.slice e)) (hi : P.info? e = some i) (hz : i.zero = some z)
    (hsize : i.size = size) (hby : i.bytes = bytes) (hzs : z.cells.size = size) (hsz : 0 < size)
    (v : Value) (n : Nat) (xs : List Value) (hs : a.eval s = v) (hown : w.ownsRow 0 e size v n xs) (L : List Nat)
    (xv : Value) (m : Nat) (news : List Value) (hx : a.eval x = xv) (hsrc : Src w L xv m news) (hl : news.length = m * size) (h1 : ∀ u ∈ news, u.oneCell' = true)
    (hb : (n + m) ≤ 9223372036854775807 ∧ (n + m) * bytes ≤ 140737488355328)
    (h : ∀ ao cap w', w'.ownsRow 0 e size (.slice ao (n + m) cap) (n + m) (xs ++ news) → w.grownBy w' v.ownBlock → ((Value.slice ao (n + m) cap).ownBlock = v.ownBlock ∨ (Value.slice ao (n + m) cap).ownBlock = some w.heap.size) → wpList P ops Q rest (a.put o.dst (.slice ao (n + m) cap)) w') : wpList P ops Q (o :: rest) a w :=
  wpList_plain hgd fun _ hK => wp_append_any w s x t ho e i z size bytes ht hi hz hsize hby hzs hsz v n xs hs hown L xv m news hx hsrc hl h1 hb fun ao cap w' h2 h3 h4 => hK _ _ (h ao cap w' h2 h3 h4)

/-- At a step of a region that draws its order. -/
theorem step_append_any {ops : Array Oper} {o : Oper} {a : Act} {K : Act → World → Prop} {Q : Exit → Act → World → Prop} {E : Prop} (hgd : o.guard = none) (s x : Operand) (t : TypeId)
    (ho : o.op = .call { callee := .builtin .append, args := #[s, x], argTypes := #[t, t] })
    (e : TypeId) (i : TypeInfo) (z : Value) (size bytes : Nat) (ht : P.underlying t = some (.slice e)) (hi : P.info? e = some i) (hz : i.zero = some z)
    (hsize : i.size = size) (hby : i.bytes = bytes) (hzs : z.cells.size = size) (hsz : 0 < size)
    (v : Value) (n : Nat) (xs : List Value) (hs : a.eval s = v) (hown : w.ownsRow 0 e size v n xs) (L : List Nat)
    (xv : Value) (m : Nat) (news : List Value) (hx : a.eval x = xv) (hsrc : Src w L xv m news) (hl : news.length = m * size) (h1 : ∀ u ∈ news, u.oneCell' = true)
    (hb : (n + m) ≤ 9223372036854775807 ∧ (n + m) * bytes ≤ 140737488355328)
    (h : ∀ ao cap w', w'.ownsRow 0 e size (.slice ao (n + m) cap) (n + m) (xs ++ news) → w.grownBy w' v.ownBlock → ((Value.slice ao (n + m) cap).ownBlock = v.ownBlock ∨ (Value.slice ao (n + m) cap).ownBlock = some w.heap.size) → K (a.put o.dst (.slice ao (n + m) cap)) w') :
    if Region.wanted o (yielded ops a.tmps) = true then Oper.wp P o a w K Q else E := by
  have hw : Region.wanted o (yielded ops a.tmps) = true := by simp [Region.wanted, hgd]
  rw [if_pos hw]
  exact wp_append_any w s x t ho e i z size bytes ht hi hz hsize hby hzs hsz v n xs hs hown L xv m news hx hsrc hl h1 hb h
end

/-- One new block of the cells xs is a source. -/
theorem src_new (w w' : World) (L : List Nat) (cs : Array Value) (t : TypeId) (m c : Nat) {fr : Nat × Nat} (ht : Tch [] (w.alloc (.cells cs t fr)) w') (hL : w.heap.size ∉ L) (hmc : m ≤ c := by omega) : Src w' L (.slice (some ⟨w.heap.size, 0, none⟩) m c) m cs.toList := by
  have hb : (w.alloc (.cells cs t fr)).heap[w.heap.size]? = some (.cells cs t fr) := heap_alloc_new w _
  have hb' : w'.heap[w.heap.size]? = some (.cells cs t fr) := by rw [ht.block w.heap.size (heap_lt hb) (by simp)]; exact hb
  exact ⟨.inr ⟨_, _, rfl, hmc, fun j u hj => ⟨hL, World.news_of_block hb' j u hj⟩⟩⟩

/-- Numbers as bytes' values. -/
def bys (l : List Int) : List Value := l.map (Value.int .u8)
theorem bys_append (a b : List Int) : bys (a ++ b) = bys a ++ bys b := by simp [bys]
@[simp] theorem bys_length (a : List Int) : (bys a).length = a.length := by simp [bys]
theorem bys_one (a : List Int) : ∀ u ∈ bys a, u.oneCell' = true := by
  intro u hu; simp [bys] at hu; obtain ⟨x, _, rfl⟩ := hu; rfl
/-- A writer at block p (its struct's type T, its bytes' type E) holds the bytes l, in the block row (row = p: there is none). -/
structure Wr (w : World) (T E : TypeId) (p row : Nat) (l : List Int) : Prop where
  ex : ∃ v, w.heap[p]? = some (.cells #[v] T (0, 0)) ∧ w.ownsRow 0 E 1 v l.length (bys l) ∧ row = v.ownBlock.getD p ∧ v.ownBlock ≠ some p

theorem Wr.lt {w : World} {T E : TypeId} {p row : Nat} {l : List Int} (h : Wr w T E p row l) : p < w.heap.size := by
  obtain ⟨v, hv, _⟩ := h.ex
  exact heap_lt hv
theorem Wr.tch {w w' : World} {T E : TypeId} {p row : Nat} {l : List Int} {L : List Nat} (h : Wr w T E p row l) (ht : Tch L w w') (hp : p ∉ L) (hr : row ∉ L) : Wr w' T E p row l := by
  have hlt := h.lt
  obtain ⟨v, hv, ho, rfl, hne⟩ := h.ex
  refine ⟨v, by rw [ht.block p hlt hp]; exact hv, ownsRow_tch ho ht ?_, rfl, hne⟩
  intro k hk
  rw [hk] at hr; simpa using hr
/-- A new writer. -/
theorem Wr.new (w : World) (T E : TypeId) : Wr (w.alloc (.cells #[.slice none 0 0] T)) T E w.heap.size w.heap.size [] :=
  ⟨.slice none 0 0, heap_alloc_new w _, World.ownsRow_nil _ _ _ _, rfl, by simp [Value.ownBlock]⟩

/-- Behind an append to a writer's bytes and the store of the new slice: the writer holds more. -/
theorem Wr.grow {w w0 w1 : World} {T E : TypeId} {p : Nat} {l news : List Int} {v0 v1 : Value} (hv : w.heap[p]? = some (.cells #[v0] T (0, 0))) (hne : v0.ownBlock ≠ some p)
    (h0 : Tch [] w w0) (hg : w0.grownBy w1 v0.ownBlock) (n : Nat) (ho : w1.ownsRow 0 E 1 v1 n (bys l ++ bys news)) (hat : v1.ownBlock = v0.ownBlock ∨ v1.ownBlock = some w0.heap.size) :
    ∃ row', Wr (w1.setCell ⟨p, 0, none⟩ v1) T E p row' (l ++ news) ∧ (row' = v0.ownBlock.getD p ∨ w.heap.size ≤ row') ∧ Tch [p, v0.ownBlock.getD p] w (w1.setCell ⟨p, 0, none⟩ v1) := by
  have hlt := heap_lt hv
  have hs := h0.size
  have hn : n = (l ++ news).length := by have := ho.1; simpa using this.symm
  have hp1 : w1.heap[p]? = some (.cells #[v0] T (0, 0)) := by
    rw [hg.block p (by omega) (fun e => hne e.symm), h0.block p hlt (by simp)]; exact hv
  have hne1 : v1.ownBlock ≠ some p := by
    rcases hat with h | h
    · rw [h]; exact hne
    · rw [h]; simp; omega
  refine ⟨v1.ownBlock.getD p, ⟨v1, ?_, ?_, rfl, hne1⟩, ?_, ?_⟩
  · simp [World.setCell, Array.getElem?_modify, hp1]
  · rw [← hn, bys_append]
    exact ownsRow_setCell_other ho hne1 _
  · rcases hat with h | h
    · left; rw [h]
    · right; rw [h]; simpa using hs
  · refine Tch.setCell ((h0.mono (M := [p, v0.ownBlock.getD p]) (by simp)).grown hg (fun k hk => ?_)) (by simp) _
    left; rw [hk]; simp

/-- Bytes' range. -/
def Byt (l : List Int) : Prop := ∀ x ∈ l, 0 ≤ x ∧ x ≤ 255
theorem Byt.take {l : List Int} (h : Byt l) (n : Nat) : Byt (l.take n) := fun x hx => h x (List.mem_of_mem_take hx)
theorem Byt.drop {l : List Int} (h : Byt l) (n : Nat) : Byt (l.drop n) := fun x hx => h x (List.mem_of_mem_drop hx)
theorem Byt.nil : Byt [] := fun x hx => by cases hx
theorem Byt.append {l m : List Int} (h : Byt l) (k : Byt m) : Byt (l ++ m) := fun x hx => by
  rcases List.mem_append.1 hx with hx | hx
  · exact h x hx
  · exact k x hx
/-- Where a slice cut at i begins. -/
def cutA (ao : Option Addr) (i sz c : Nat) : Option Addr := if c = i then ao else ao.map (·.add (i * sz))
theorem Addr_add_zero (a : Addr) : a.add 0 = a := by simp [Addr.add]
theorem Addr_add_add (a : Addr) (i j : Nat) : (a.add i).add j = a.add (i + j) := by
  unfold Addr.add
  by_cases h : i = 0
  · subst h; simp
  · by_cases h' : j = 0
    · subst h'; simp [h]
    · simp [h, h']; omega
section
variable {P : Program}
theorem run_cut_h (t e : TypeId) (sz : Nat) (ht : P.underlying t = some (.slice e)) (he : P.cellsOf e = sz) (hi : (P.info? e).isSome = true) (ao : Option Addr) (len cap n : Nat) (hn : n ≤ cap) (w : World) :
    (Instr.slice t (.slice ao len cap) none (some (.int .i64 (n : Int))) none).run P w = .ok (.slice ao n cap) w := by
  obtain ⟨i, hi⟩ := Option.isSome_iff_exists.1 hi
  have h1 : ((n : Int) ≤ (cap : Int)) := by omega
  simp [Instr.slice, run_underlying ht, Instr.sliceBounds, run_sliceBound, sizeOf, typeInfo, hi, h1]
  intro _
  cases ao <;> simp [Addr_add_zero]
theorem run_cut_l (t e : TypeId) (sz : Nat) (ht : P.underlying t = some (.slice e)) (he : P.cellsOf e = sz) (hi : (P.info? e).isSome = true) (ao : Option Addr) (len cap n : Nat) (hn : n ≤ len) (w : World) :
    (Instr.slice t (.slice ao len cap) (some (.int .i64 (n : Int))) none none).run P w = .ok (.slice (cutA ao n sz cap) (len - n) (cap - n)) w := by
  obtain ⟨i, hi⟩ := Option.isSome_iff_exists.1 hi
  have h1 : ((n : Int) ≤ (len : Int)) := by omega
  have h2 : i.size = sz := by rw [← he]; simp [Program.cellsOf, hi]
  simp [Instr.slice, run_underlying ht, Instr.sliceBounds, run_sliceBound, sizeOf, typeInfo, hi, h1, cutA, h2]
end

theorem Src.cut_h {w : World} {L : List Nat} {ao : Option Addr} {m c n sz : Nat} {news : List Value} (h : Src w L (.slice ao m c) m news) (hn : n ≤ m) : Src w L (.slice ao n c) n (news.take (n * sz)) := by
  rcases h.ex with ⟨hv, rfl, rfl⟩ | ⟨ad, c', hv, hmc, hc⟩
  · obtain rfl : n = 0 := by omega
    exact ⟨.inl ⟨hv, rfl, by simp⟩⟩
  · simp only [Value.slice.injEq] at hv
    obtain ⟨rfl, _, rfl⟩ := hv
    refine ⟨.inr ⟨ad, c, rfl, by omega, fun j u hj => ?_⟩⟩
    rw [List.getElem?_take] at hj
    split at hj
    · exact hc j u hj
    · cases hj
theorem Src.cut_l {w : World} {L : List Nat} {ao : Option Addr} {m c n sz : Nat} {news : List Value} (h : Src w L (.slice ao m c) m news) (hn : n ≤ m) (hl : news.length = m * sz) : Src w L (.slice (cutA ao n sz c) (m - n) (c - n)) (m - n) (news.drop (n * sz)) := by
  rcases h.ex with ⟨hv, rfl, rfl⟩ | ⟨ad, c', hv, hmc, hc⟩
  · obtain rfl : n = 0 := by omega
    simp only [Value.slice.injEq] at hv
    obtain ⟨rfl, _, rfl⟩ := hv
    exact ⟨.inl ⟨by simp [cutA], rfl, by simp⟩⟩
  · simp only [Value.slice.injEq] at hv
    obtain ⟨rfl, _, rfl⟩ := hv
    by_cases hcn : c = n
    · have hmn : m = n := by omega
      subst hmn
      refine ⟨.inr ⟨ad, _, by simp [cutA, hcn]; rfl, by omega, fun j u hj => ?_⟩⟩
      rw [List.drop_eq_nil_of_le (by omega)] at hj
      cases hj
    · refine ⟨.inr ⟨ad.add (n * sz), c - n, by simp [cutA, hcn], by omega, fun j u hj => ?_⟩⟩
      rw [List.getElem?_drop] at hj
      rw [Addr_add_add, Addr_add_block]
      exact hc _ u hj

/-- A reader at block p (its struct's type T) has the bytes l left; lack: something was taken beyond the end. None of its bytes lie in a block of L. -/
structure Rd (w : World) (T : TypeId) (p : Nat) (L : List Nat) (l : List Int) (lack : Bool) : Prop where
  ex : ∃ ao cap, w.heap[p]? = some (.cells #[.slice ao l.length cap, .bool lack] T (0, 0)) ∧ Src w (p :: L) (.slice ao l.length cap) l.length (bys l)
  byt : Byt l
theorem Rd.lt {w : World} {T : TypeId} {p : Nat} {L : List Nat} {l : List Int} {lack : Bool} (h : Rd w T p L l lack) : p < w.heap.size := by
  obtain ⟨ao, cap, hv, _⟩ := h.ex
  exact heap_lt hv
theorem Rd.tch {w w' : World} {T : TypeId} {p : Nat} {L L' : List Nat} {l : List Int} {lack : Bool} (h : Rd w T p L l lack) (ht : Tch L' w w') (hp : p ∉ L') (hl : ∀ i ∈ L', i < w.heap.size → i ∈ L) : Rd w' T p L l lack := by
  have hlt := h.lt
  obtain ⟨ao, cap, hv, hs⟩ := h.ex
  exact ⟨⟨ao, cap, by rw [ht.block p hlt hp]; exact hv, hs.tch ht (fun i hi hlt => List.mem_cons_of_mem _ (hl i hi hlt))⟩, h.byt⟩
theorem Rd.cap {w : World} {T : TypeId} {p : Nat} {L : List Nat} {l : List Int} {lack : Bool} (h : Rd w T p L l lack) : ∃ ao cap, l.length ≤ cap ∧ w.heap[p]? = some (.cells #[.slice ao l.length cap, .bool lack] T (0, 0)) ∧ Src w (p :: L) (.slice ao l.length cap) l.length (bys l) := by
  obtain ⟨ao, cap, hv, hs⟩ := h.ex
  refine ⟨ao, cap, ?_, hv, hs⟩
  rcases hs.ex with ⟨h1, h2, _⟩ | ⟨ad, c, h1, h2, _⟩
  · omega
  · simp only [Value.slice.injEq] at h1; omega
section
variable {P : Program}
/-- A struct read whole, wherever it lies. -/
theorem run_loadVar_agg (w : World) (ad : Addr) (ty : TypeId) (cs : Array Value) (d : TypeDesc) (hc : ∀ j u, cs.toList[j]? = some u → w.cell? (ad.add j) = some u)
    (hu : P.underlying ty = some d) (hd : (match d with | .struct _ | .array _ _ => true | _ => false) = true) (hi : (P.info? ty).map (·.size) = some cs.size) :
    (loadVar ty ad).run P w = .ok (.agg cs) w := by
  have hl : (loadCells ad cs.toList.length).run P w = .ok cs.toList.toArray w := run_loadCells_list (P := P) w ad cs.toList hc
  cases hq : P.info? ty with
  | none => simp [hq] at hi
  | some i =>
    have hs : i.size = cs.size := by simpa [hq] using hi
    have hagg : (isAgg ty).run P w = .ok true w := by
      unfold isAgg
      rw [Sem.run_bind, run_underlying hu w]
      cases d <;> simp_all
    simp only [Array.length_toList, Array.toArray_toList] at hl
    simp [loadVar, Sem.run_bind, hagg, sizeOf, typeInfo, hq, hs, hl]
theorem wp_load_agg {o : Oper} {a : Act} {w : World} {K : Act → World → Prop} {Q : Exit → Act → World → Prop} (ty : TypeId) (x : Operand) (ho : o.op = .load ty x)
    (ad : Addr) (hx : a.eval x = .pointer (some ad)) (cs : Array Value) (d : TypeDesc) (hc : ∀ j u, cs.toList[j]? = some u → w.cell? (ad.add j) = some u)
    (hu : P.underlying ty = some d) (hd : (match d with | .struct _ | .array _ _ => true | _ => false) = true) (hi : (P.info? ty).map (·.size) = some cs.size)
    (h : K (a.put o.dst (.agg cs)) w) : o.wp P a w K Q := by
  unfold Oper.wp execOp
  simp only [ho, hx, Instr.loadAt, Instr.sureAddr, Sem.run_bind, Sem.run_pure, Result.andThen_ok, run_loadVar_agg w ad ty cs d hc hu hd hi]
  exact h
theorem wpList_load_agg {ops : Array Oper} {rest : List Oper} {o : Oper} {a : Act} {w : World} {Q : Exit → Act → World → Prop} (hgd : o.guard = none) (ty : TypeId) (x : Operand) (ho : o.op = .load ty x)
    (ad : Addr) (hx : a.eval x = .pointer (some ad)) (cs : Array Value) (d : TypeDesc) (hc : ∀ j u, cs.toList[j]? = some u → w.cell? (ad.add j) = some u)
    (hu : P.underlying ty = some d) (hd : (match d with | .struct _ | .array _ _ => true | _ => false) = true) (hi : (P.info? ty).map (·.size) = some cs.size)
    (h : wpList P ops Q rest (a.put o.dst (.agg cs)) w) : wpList P ops Q (o :: rest) a w :=
  wpList_plain hgd fun _ hK => wp_load_agg ty x ho ad hx cs d hc hu hd hi (hK _ _ h)
end

theorem Rd.mono {w : World} {T : TypeId} {p : Nat} {L L' : List Nat} {l : List Int} {lack : Bool} (h : Rd w T p L l lack) (hl : ∀ i ∈ L', i < w.heap.size → i ∈ L) : Rd w T p L' l lack := by
  obtain ⟨ao, cap, hv, hs⟩ := h.ex
  exact ⟨⟨ao, cap, hv, hs.mono (fun i hi hlt => by
    rcases List.mem_cons.1 hi with h | h
    · simp [h]
    · exact List.mem_cons_of_mem _ (hl i h hlt))⟩, h.byt⟩
end Go.Tcn
namespace Go.Tcn
open Go.RowKit
set_option linter.unusedVariables false
set_option linter.unusedSimpArgs false
def ints (l : List Int) : List Value := l.map (Value.int .i64)
@[simp] theorem ints_length (l : List Int) : (ints l).length = l.length := by simp [ints]
theorem ints_append (l m : List Int) : ints (l ++ m) = ints l ++ ints m := by simp [ints]
theorem ints_one (l : List Int) : ∀ u ∈ ints l, u.oneCell' = true := by
  intro u hu
  simp [ints] at hu
  obtain ⟨x, _, rfl⟩ := hu
  rfl
/-- An instruction. -/
structure Ins where
  op : Int
  a : Int
  b : Int
deriving DecidableEq
def Ins.cells (x : Ins) : List Value := [.int .i64 x.op, .int .i64 x.a, .int .i64 x.b]
def codeCells (c : List Ins) : List Value := (c.map Ins.cells).flatten
structure Mth where
  params : List Int
  result : Int
  locals : List Int
  code : List Ins
deriving DecidableEq
structure Imp where
  name : List UInt8
  exp : Int
  params : List Int
  result : Int
deriving DecidableEq
structure Img where
  name : List UInt8
  fields : List Int
  imports : List Imp
  methods : List Mth
  exports : List Int
deriving DecidableEq
def str (l : List UInt8) : Value := .string ⟨l.toArray⟩
/-- A slice value reads as numbers. -/
def RInts (w : World) (L : List Nat) (v : Value) (l : List Int) : Prop := Src w L v l.length (ints l)
def RCode (w : World) (L : List Nat) (v : Value) (c : List Ins) : Prop := Src w L v c.length (codeCells c)
/-- Cells read as a method. -/
def RMth (w : World) (L : List Nat) (cs : List Value) (m : Mth) : Prop := ∃ vp vl vc, cs = [vp, .int .i64 m.result, vl, vc] ∧ RInts w L vp m.params ∧ RInts w L vl m.locals ∧ RCode w L vc m.code
def RImp (w : World) (L : List Nat) (cs : List Value) (x : Imp) : Prop := ∃ vp, cs = [str x.name, .int .i64 x.exp, vp, .int .i64 x.result] ∧ RInts w L vp x.params
/-- A slice value reads as a list of things of sz cells each. -/
structure RL {α : Type} (w : World) (L : List Nat) (sz : Nat) (R : List Value → α → Prop) (v : Value) (xs : List α) : Prop where
  ex : ∃ css : List (List Value), css.length = xs.length ∧ (∀ cs ∈ css, cs.length = sz) ∧ Src w L v xs.length css.flatten ∧ ∀ (k : Nat) cs x, css[k]? = some cs → xs[k]? = some x → R cs x
def RMths (w : World) (L : List Nat) (v : Value) (ms : List Mth) : Prop := RL w L 4 (RMth w L) v ms
def RImps (w : World) (L : List Nat) (v : Value) (xs : List Imp) : Prop := RL w L 4 (RImp w L) v xs
def RImg (w : World) (L : List Nat) (cs : List Value) (i : Img) : Prop := ∃ vf vi vm ve, cs = [str i.name, vf, vi, vm, ve] ∧ RInts w L vf i.fields ∧ RImps w L vi i.imports ∧ RMths w L vm i.methods ∧ RInts w L ve i.exports
theorem RInts.tch {w w' : World} {L L' : List Nat} {v : Value} {l : List Int} (h : RInts w L v l) (ht : Tch L' w w') (hl : ∀ i ∈ L', i < w.heap.size → i ∈ L) : RInts w' L v l := Src.tch h ht hl
theorem RCode.tch {w w' : World} {L L' : List Nat} {v : Value} {l : List Ins} (h : RCode w L v l) (ht : Tch L' w w') (hl : ∀ i ∈ L', i < w.heap.size → i ∈ L) : RCode w' L v l := Src.tch h ht hl
theorem RMth.tch {w w' : World} {L L' : List Nat} {cs : List Value} {m : Mth} (h : RMth w L cs m) (ht : Tch L' w w') (hl : ∀ i ∈ L', i < w.heap.size → i ∈ L) : RMth w' L cs m := by
  obtain ⟨vp, vl, vc, hc, h1, h2, h3⟩ := h
  exact ⟨vp, vl, vc, hc, h1.tch ht hl, h2.tch ht hl, h3.tch ht hl⟩
theorem RImp.tch {w w' : World} {L L' : List Nat} {cs : List Value} {m : Imp} (h : RImp w L cs m) (ht : Tch L' w w') (hl : ∀ i ∈ L', i < w.heap.size → i ∈ L) : RImp w' L cs m := by
  obtain ⟨vp, hc, h1⟩ := h
  exact ⟨vp, hc, h1.tch ht hl⟩
theorem RL.tch {α : Type} {w w' : World} {L L' : List Nat} {sz : Nat} {R R' : List Value → α → Prop} {v : Value} {xs : List α} (h : RL w L sz R v xs) (hR : ∀ cs x, R cs x → R' cs x) (ht : Tch L' w w') (hl : ∀ i ∈ L', i < w.heap.size → i ∈ L) : RL w' L sz R' v xs := by
  obtain ⟨css, h1, h2, h3, h4⟩ := h.ex
  exact ⟨css, h1, h2, h3.tch ht hl, fun k cs x a b => hR _ _ (h4 k cs x a b)⟩
theorem RMths.tch {w w' : World} {L L' : List Nat} {v : Value} {l : List Mth} (h : RMths w L v l) (ht : Tch L' w w') (hl : ∀ i ∈ L', i < w.heap.size → i ∈ L) : RMths w' L v l := RL.tch h (fun _ _ r => r.tch ht hl) ht hl
theorem RImps.tch {w w' : World} {L L' : List Nat} {v : Value} {l : List Imp} (h : RImps w L v l) (ht : Tch L' w w') (hl : ∀ i ∈ L', i < w.heap.size → i ∈ L) : RImps w' L v l := RL.tch h (fun _ _ r => r.tch ht hl) ht hl
theorem RImg.tch {w w' : World} {L L' : List Nat} {cs : List Value} {i : Img} (h : RImg w L cs i) (ht : Tch L' w w') (hl : ∀ i ∈ L', i < w.heap.size → i ∈ L) : RImg w' L cs i := by
  obtain ⟨vf, vi, vm, ve, hc, h1, h2, h3, h4⟩ := h
  exact ⟨vf, vi, vm, ve, hc, h1.tch ht hl, h2.tch ht hl, h3.tch ht hl, h4.tch ht hl⟩
/-- One cell of what reads as cells. -/
theorem Src.at {w : World} {L : List Nat} {ao : Option Addr} {m c : Nat} {news : List Value} (h : Src w L (.slice ao m c) m news) {j : Nat} (hj : j < news.length) :
    ∃ ad, ao = some ad ∧ ad.block < w.heap.size ∧ ad.block ∉ L ∧ w.cell? (ad.add j) = some news[j] := by
  rcases h.ex with ⟨_, _, h3⟩ | ⟨ad, c', h1, h2, h3⟩
  · subst h3; simp at hj
  · simp only [Value.slice.injEq] at h1
    obtain ⟨rfl, _, rfl⟩ := h1
    obtain ⟨h4, h5⟩ := h3 j news[j] (by simp [hj])
    have h6 := cell_lt h5
    rw [Addr_add_block] at h6
    exact ⟨ad, rfl, h6, h4, h5⟩
/-- The cells of the k-th of things of sz cells. -/
theorem flatten_at {css : List (List Value)} {sz k : Nat} (hs : ∀ cs ∈ css, cs.length = sz) (hk : k < css.length) {j : Nat} (hj : j < sz) : css.flatten[k * sz + j]? = css[k][j]? := by
  induction css generalizing k with
  | nil => simp at hk
  | cons c css ih =>
    have hc : c.length = sz := hs c (by simp)
    cases k with
    | zero => simp [List.getElem?_append_left (show j < c.length by omega)]
    | succ k =>
      have e : (k + 1) * sz + j = c.length + (k * sz + j) := by rw [hc, Nat.add_mul]; omega
      rw [List.flatten_cons, e, List.getElem?_append_right (by omega)]
      simp only [Nat.add_sub_cancel_left]
      simp only [List.length_cons] at hk
      rw [ih (fun cs h => hs cs (by simp [h])) (by omega)]
      simp
theorem flatten_length {css : List (List Value)} {sz : Nat} (hs : ∀ cs ∈ css, cs.length = sz) : css.flatten.length = css.length * sz := by
  induction css with
  | nil => simp
  | cons c css ih =>
    rw [List.flatten_cons, List.length_append, ih (fun cs h => hs cs (by simp [h])), hs c (by simp), List.length_cons, Nat.add_mul]
    omega
/-- The k-th of what a slice reads as. -/
theorem RL.at {α : Type} {w : World} {L : List Nat} {sz : Nat} {R : List Value → α → Prop} {ao : Option Addr} {m c : Nat} {xs : List α} (h : RL w L sz R (.slice ao m c) xs) {k : Nat} (hk : k < xs.length) (hsz : 0 < sz) :
    ∃ ad cs, ao = some ad ∧ ad.block < w.heap.size ∧ ad.block ∉ L ∧ cs.length = sz ∧ R cs xs[k] ∧ ∀ (j : Nat) u, cs[j]? = some u → w.cell? (ad.add (k * sz + j)) = some u := by
  obtain ⟨css, h1, h2, h3, h4⟩ := h.ex
  have hf := h3.form
  obtain ⟨_, _, hf⟩ := hf
  simp only [Value.slice.injEq] at hf
  obtain ⟨_, rfl, _⟩ := hf
  have hk' : k < css.length := by omega
  have hl := flatten_length h2
  have hle : (k + 1) * sz ≤ css.length * sz := Nat.mul_le_mul_right _ (by omega)
  rw [Nat.add_mul] at hle
  obtain ⟨ad, rfl, a1, a2, _⟩ := h3.at (j := k * sz) (by omega)
  refine ⟨ad, css[k], rfl, a1, a2, h2 _ (List.getElem_mem hk'), h4 k _ _ (by simp [hk']) (by simp [hk]), fun j u hj => ?_⟩
  have hjs : j < sz := by
    have := (List.getElem?_eq_some_iff.1 hj).1
    rw [h2 _ (List.getElem_mem hk')] at this
    exact this
  have hfl : k * sz + j < css.flatten.length := by omega
  obtain ⟨ad', e, _, _, hc⟩ := h3.at (j := k * sz + j) hfl
  simp only [Option.some.injEq] at e
  subst e
  rw [hc]
  have := flatten_at h2 hk' hjs
  rw [hj] at this
  rw [List.getElem?_eq_getElem hfl] at this
  exact this
end Go.Tcn
namespace Go.Tcn
open Go.RowKit
set_option linter.unusedVariables false
set_option linter.unusedSimpArgs false
theorem RInts.mono {w : World} {L L' : List Nat} {v : Value} {l : List Int} (h : RInts w L v l) (hm : ∀ i ∈ L', i < w.heap.size → i ∈ L) : RInts w L' v l := Src.mono h hm
theorem RCode.mono {w : World} {L L' : List Nat} {v : Value} {l : List Ins} (h : RCode w L v l) (hm : ∀ i ∈ L', i < w.heap.size → i ∈ L) : RCode w L' v l := Src.mono h hm
theorem RMth.mono {w : World} {L L' : List Nat} {cs : List Value} {m : Mth} (h : RMth w L cs m) (hm : ∀ i ∈ L', i < w.heap.size → i ∈ L) : RMth w L' cs m := by
  obtain ⟨vp, vl, vc, hc, h1, h2, h3⟩ := h
  exact ⟨vp, vl, vc, hc, h1.mono hm, h2.mono hm, h3.mono hm⟩
theorem RImp.mono {w : World} {L L' : List Nat} {cs : List Value} {m : Imp} (h : RImp w L cs m) (hm : ∀ i ∈ L', i < w.heap.size → i ∈ L) : RImp w L' cs m := by
  obtain ⟨vp, hc, h1⟩ := h
  exact ⟨vp, hc, h1.mono hm⟩
theorem RMths.mono {w : World} {L L' : List Nat} {v : Value} {l : List Mth} (h : RMths w L v l) (hm : ∀ i ∈ L', i < w.heap.size → i ∈ L) : RMths w L' v l := by
  obtain ⟨css, h1, h2, h3, h4⟩ := h.ex
  exact ⟨css, h1, h2, h3.mono hm, fun k cs x a b => (h4 k cs x a b).mono hm⟩
theorem RImps.mono {w : World} {L L' : List Nat} {v : Value} {l : List Imp} (h : RImps w L v l) (hm : ∀ i ∈ L', i < w.heap.size → i ∈ L) : RImps w L' v l := by
  obtain ⟨css, h1, h2, h3, h4⟩ := h.ex
  exact ⟨css, h1, h2, h3.mono hm, fun k cs x a b => (h4 k cs x a b).mono hm⟩
theorem RImg.mono {w : World} {L L' : List Nat} {cs : List Value} {i : Img} (h : RImg w L cs i) (hm : ∀ i ∈ L', i < w.heap.size → i ∈ L) : RImg w L' cs i := by
  obtain ⟨vf, vi, vm, ve, hc, h1, h2, h3, h4⟩ := h
  exact ⟨vf, vi, vm, ve, hc, h1.mono hm, h2.mono hm, h3.mono hm, h4.mono hm⟩
theorem RInts.thin {w : World} {L : List Nat} {v : Value} {l : List Int} (h : RInts w L v l) : RInts w [] v l := Src.mono h (by simp)
theorem RCode.thin {w : World} {L : List Nat} {v : Value} {l : List Ins} (h : RCode w L v l) : RCode w [] v l := Src.mono h (by simp)
theorem RMth.thin {w : World} {L : List Nat} {cs : List Value} {m : Mth} (h : RMth w L cs m) : RMth w [] cs m := by
  obtain ⟨vp, vl, vc, hc, h1, h2, h3⟩ := h
  exact ⟨vp, vl, vc, hc, h1.thin, h2.thin, h3.thin⟩
theorem RImp.thin {w : World} {L : List Nat} {cs : List Value} {m : Imp} (h : RImp w L cs m) : RImp w [] cs m := by
  obtain ⟨vp, hc, h1⟩ := h
  exact ⟨vp, hc, h1.thin⟩
theorem RMths.thin {w : World} {L : List Nat} {v : Value} {l : List Mth} (h : RMths w L v l) : RMths w [] v l := by
  obtain ⟨css, h1, h2, h3, h4⟩ := h.ex
  exact ⟨css, h1, h2, h3.mono (by simp), fun k cs x a b => (h4 k cs x a b).thin⟩
theorem RImps.thin {w : World} {L : List Nat} {v : Value} {l : List Imp} (h : RImps w L v l) : RImps w [] v l := by
  obtain ⟨css, h1, h2, h3, h4⟩ := h.ex
  exact ⟨css, h1, h2, h3.mono (by simp), fun k cs x a b => (h4 k cs x a b).thin⟩
theorem RImg.thin {w : World} {L : List Nat} {cs : List Value} {i : Img} (h : RImg w L cs i) : RImg w [] cs i := by
  obtain ⟨vf, vi, vm, ve, hc, h1, h2, h3, h4⟩ := h
  exact ⟨vf, vi, vm, ve, hc, h1.thin, h2.thin, h3.thin, h4.thin⟩
end Go.Tcn
namespace Go.Tcn
open Go.RowKit
set_option linter.unusedVariables false
set_option linter.unusedSimpArgs false
/-- A number of 64 bits. -/
def I6 (n : Int) : Prop := -9223372036854775808 ≤ n ∧ n ≤ 9223372036854775807
/-- Four cells of a block. -/
structure Bq (w : World) (g : Nat) (x y z u : Value) : Prop where
  c0 : w.cell? ⟨g, 0, none⟩ = some x
  c1 : w.cell? ⟨g, 1, none⟩ = some y
  c2 : w.cell? ⟨g, 2, none⟩ = some z
  c3 : w.cell? ⟨g, 3, none⟩ = some u
theorem Bq.tch {w w' : World} {L : List Nat} {g : Nat} {x y z u : Value} (h : Bq w g x y z u) (t : Tch L w w') (hg : g ∉ L) : Bq w' g x y z u :=
  ⟨by rw [t.cell (cell_lt h.c0) hg]; exact h.c0, by rw [t.cell (cell_lt h.c1) hg]; exact h.c1, by rw [t.cell (cell_lt h.c2) hg]; exact h.c2, by rw [t.cell (cell_lt h.c3) hg]; exact h.c3⟩
theorem Bq.new (w : World) (x y z u : Value) (T : TypeId) : Bq (w.alloc (.cells #[x, y, z, u] T)) w.heap.size x y z u := ⟨by simp [go_sem], by simp [go_sem], by simp [go_sem], by simp [go_sem]⟩
/-- Three cells of a block, not frozen. -/
structure By (w : World) (g : Nat) (x y z : Value) : Prop where
  c0 : w.cell? ⟨g, 0, none⟩ = some x
  c1 : w.cell? ⟨g, 1, none⟩ = some y
  c2 : w.cell? ⟨g, 2, none⟩ = some z
  f0 : w.frozen? ⟨g, 0, none⟩ = false
  f1 : w.frozen? ⟨g, 1, none⟩ = false
  f2 : w.frozen? ⟨g, 2, none⟩ = false
theorem By.tch {w w' : World} {L : List Nat} {g : Nat} {x y z : Value} (h : By w g x y z) (t : Tch L w w') (hg : g ∉ L) : By w' g x y z :=
  ⟨by rw [t.cell (cell_lt h.c0) hg]; exact h.c0, by rw [t.cell (cell_lt h.c1) hg]; exact h.c1, by rw [t.cell (cell_lt h.c2) hg]; exact h.c2,
   by rw [t.frozen (cell_lt h.c0) hg]; exact h.f0, by rw [t.frozen (cell_lt h.c1) hg]; exact h.f1, by rw [t.frozen (cell_lt h.c2) hg]; exact h.f2⟩
theorem By.lt {w : World} {g : Nat} {x y z : Value} (h : By w g x y z) : g < w.heap.size := cell_lt h.c0
theorem By.new (w : World) (x y z : Value) (T : TypeId) : By (w.alloc (.cells #[x, y, z] T)) w.heap.size x y z := ⟨by simp [go_sem], by simp [go_sem], by simp [go_sem], by simp [go_sem], by simp [go_sem], by simp [go_sem]⟩
theorem Rd.thin {w : World} {T : TypeId} {p : Nat} {L : List Nat} {l : List Int} {lack : Bool} {g : Nat} (h : Rd w T p (g :: L) l lack) : Rd w T p L l lack := h.mono (fun i hi hlt => List.mem_cons_of_mem _ hi)
theorem Rd.set {w : World} {T : TypeId} {p : Nat} {L : List Nat} {l : List Int} {lack : Bool} (h : Rd w T p L l lack) {q : Addr} (hq : q.block ∈ L) (hp : p ≠ q.block) (u : Value) : Rd (w.setCell q u) T p L l lack :=
  h.tch (L' := [q.block]) ((Tch.refl _ w).setCell (by simp) u) (by simpa using hp) (by simp; intro _; exact hq)
end Go.Tcn
namespace Go.Tcn
open Go.RowKit
set_option linter.unusedVariables false
set_option linter.unusedSimpArgs false
/-- The worlds that have turned since w in the blocks of L alone. -/
def TW (L : List Nat) (w : World) : Type := {w' : World // Tch L w w'}
def TW.w {L : List Nat} {w : World} (x : TW L w) : World := x.1
theorem TW.t {L : List Nat} {w : World} (x : TW L w) : Tch L w x.w := x.2
end Go.Tcn
namespace Go.Tcn
set_option linter.unusedVariables false
set_option linter.unusedSimpArgs false
/-- The names of all instructions, as bytes. -/
def nmTab : List (List UInt8) := [[112, 117, 115, 104], [108, 111, 97, 100], [115, 116, 111, 114, 101], [112, 111, 112], [100, 117, 112], [97, 100, 100], [115, 117, 98], [109, 117, 108], [97, 110, 100], [111, 114], [120, 111, 114], [115, 104, 108], [115, 104, 114], [115, 97, 114], [110, 101, 103], [110, 111, 116], [100, 105, 118], [114, 101, 109], [101, 113], [108, 116], [98, 101, 108, 111, 119], [112, 105, 99, 107], [106, 117, 109, 112], [106, 117, 109, 112, 105, 102], [110, 117, 108, 108], [105, 115, 110, 117, 108, 108], [110, 101, 119], [108, 101, 110], [103, 101, 116], [112, 117, 116], [99, 111, 112, 121], [115, 97, 109, 101], [103, 101, 116, 102], [112, 117, 116, 102], [98, 117, 102], [115, 101, 110, 100], [99, 97, 108, 108], [99, 97, 108, 108, 120], [114, 101, 116]]
/-- All names with a blank behind each. -/
def wordsL : List UInt8 := [112, 117, 115, 104, 32, 108, 111, 97, 100, 32, 115, 116, 111, 114, 101, 32, 112, 111, 112, 32, 100, 117, 112, 32, 97, 100, 100, 32, 115, 117, 98, 32, 109, 117, 108, 32, 97, 110, 100, 32, 111, 114, 32, 120, 111, 114, 32, 115, 104, 108, 32, 115, 104, 114, 32, 115, 97, 114, 32, 110, 101, 103, 32, 110, 111, 116, 32, 100, 105, 118, 32, 114, 101, 109, 32, 101, 113, 32, 108, 116, 32, 98, 101, 108, 111, 119, 32, 112, 105, 99, 107, 32, 106, 117, 109, 112, 32, 106, 117, 109, 112, 105, 102, 32, 110, 117, 108, 108, 32, 105, 115, 110, 117, 108, 108, 32, 110, 101, 119, 32, 108, 101, 110, 32, 103, 101, 116, 32, 112, 117, 116, 32, 99, 111, 112, 121, 32, 115, 97, 109, 101, 32, 103, 101, 116, 102, 32, 112, 117, 116, 102, 32, 98, 117, 102, 32, 115, 101, 110, 100, 32, 99, 97, 108, 108, 32, 99, 97, 108, 108, 120, 32, 114, 101, 116, 32]
/-- Where a walk over words is told to stop: op, word. -/
def findW (stop : Nat → List UInt8 → Bool) : List UInt8 → Nat → List UInt8 → Option (Nat × List UInt8)
  | [], _, _ => none
  | c :: l, n, word => if c = 32 then (if stop n word = true then some (n, word) else findW stop l (n + 1) []) else findW stop l n (word ++ [c])
def firstW (stop : Nat → List UInt8 → Bool) : List (List UInt8) → Nat → Option (Nat × List UInt8)
  | [], _ => none
  | word :: l, n => if stop n word = true then some (n, word) else firstW stop l (n + 1)
theorem findW_word (stop : Nat → List UInt8 → Bool) (rest : List UInt8) (n : Nat) : ∀ (w acc : List UInt8), (∀ c ∈ w, c ≠ 32) → findW stop (w ++ 32 :: rest) n acc = if stop n (acc ++ w) = true then some (n, acc ++ w) else findW stop rest (n + 1) []
  | [], acc, _ => by simp [findW]
  | c :: w, acc, h => by
    have hc := h c (by simp)
    rw [List.cons_append, findW, if_neg hc, findW_word stop rest n w (acc ++ [c]) (fun x hx => h x (by simp [hx]))]
    simp
theorem findW_tab (stop : Nat → List UInt8 → Bool) : ∀ (t : List (List UInt8)) (n : Nat), (∀ w ∈ t, ∀ c ∈ w, c ≠ 32) → findW stop (t.flatMap (· ++ [32])) n [] = firstW stop t n
  | [], n, _ => rfl
  | w :: t, n, h => by
    rw [List.flatMap_cons, List.append_assoc, List.singleton_append, findW_word stop _ n w [] (h w (by simp)), firstW, findW_tab stop t (n + 1) (fun x hx => h x (by simp [hx]))]
    simp
theorem words_tab : wordsL = nmTab.flatMap (· ++ [32]) := by decide +kernel
theorem findW_words (stop : Nat → List UInt8 → Bool) : findW stop wordsL 1 [] = firstW stop nmTab 1 := by
  rw [words_tab]
  exact findW_tab stop nmTab 1 (by decide +kernel)
/-- The name of an instruction. -/
def nmAt (op : Int) : List UInt8 := if 1 ≤ op ∧ op ≤ 39 then nmTab.getD (op.toNat - 1) [] else []
theorem firstW_op (op : Int) : ∀ (l : List (List UInt8)) (n : Nat), firstW (fun k _ => decide ((k : Int) = op)) l n = if (n : Int) ≤ op ∧ op < (n : Int) + l.length then some (op.toNat, l.getD (op.toNat - n) []) else none
  | [], n => by unfold firstW; rw [if_neg (by simp <;> omega)]
  | w :: l, n => by
    unfold firstW
    by_cases h : (n : Int) = op
    · rw [if_pos (by simpa using h), if_pos (by simp; omega)]
      have : op.toNat = n := by omega
      rw [this]; simp
    · rw [if_neg (by simpa using h), firstW_op op l (n + 1)]
      by_cases h2 : (n : Int) ≤ op ∧ op < (n : Int) + (w :: l).length
      · rw [if_pos h2, if_pos (by simp at h2 ⊢; omega)]
        have e : op.toNat - n = (op.toNat - (n + 1)) + 1 := by omega
        rw [e]; simp
      · rw [if_neg h2, if_neg (by simp at h2 ⊢; omega)]
theorem findW_op (op : Int) : findW (fun k _ => decide ((k : Int) = op)) wordsL 1 [] = if 1 ≤ op ∧ op ≤ 39 then some (op.toNat, nmAt op) else none := by
  rw [findW_words, firstW_op]
  have e : nmTab.length = 39 := rfl
  rw [e]
  by_cases h : 1 ≤ op ∧ op ≤ 39
  · rw [if_pos (by omega), if_pos h]; unfold nmAt; rw [if_pos h]
  · rw [if_neg (by omega), if_neg h]
/-- The first instruction of a name; 0: there is none. -/
def opAt (s : List UInt8) : Int := match firstW (fun _ w => w == s) nmTab 1 with | some (n, _) => (n : Int) | none => 0
theorem findW_name (s : List UInt8) : findW (fun _ w => w == s) wordsL 1 [] = firstW (fun _ w => w == s) nmTab 1 := findW_words _
theorem nmTab_ne : ∀ w ∈ nmTab, w ≠ [] := by decide
theorem nmAt_nil (op : Int) : nmAt op = [] ↔ ¬ (1 ≤ op ∧ op ≤ 39) := by
  unfold nmAt
  by_cases h : 1 ≤ op ∧ op ≤ 39
  · rw [if_pos h]
    have hl : op.toNat - 1 < nmTab.length := by show _ < 39; omega
    have e : nmTab.getD (op.toNat - 1) [] = nmTab[op.toNat - 1] := by simp [List.getD, hl]
    rw [e]
    have := nmTab_ne _ (List.getElem_mem hl)
    simp [this, h]
  · rw [if_neg h]; simp [h]
/-- How many operands. -/
def opndN (op : Int) : Int := if op = 27 then 2 else if op = 1 ∨ op = 2 ∨ op = 3 ∨ op = 23 ∨ op = 24 ∨ op = 25 ∨ op = 33 ∨ op = 34 ∨ op = 35 ∨ op = 36 ∨ op = 37 ∨ op = 38 then 1 else 0
/-- The ranges of A. -/
def limLo (op : Int) : Int := if op = 1 then -2147483648 else if op = 25 ∨ op = 27 then 3 else if op = 35 ∨ op = 36 then 1 else 0
def limHi (op : Int) : Int := if op = 1 then 2147483647 else if op = 2 ∨ op = 3 then 9 else if op = 23 ∨ op = 24 then 119 else if op = 25 ∨ op = 27 then 4 else if op = 33 ∨ op = 34 then 7 else if op = 35 ∨ op = 36 then 2 else if op = 37 then 7 else if op = 38 then 3 else 0
/-- May an instruction be? -/
def rightI (op a b : Int) : Bool := decide (1 ≤ op ∧ op ≤ 39 ∧ limLo op ≤ a ∧ a ≤ limHi op ∧ (if op = 27 then (0 ≤ b ∧ b ≤ 2 ∨ 4 ≤ b ∧ b ≤ 6) else b = 0))
end Go.Tcn
