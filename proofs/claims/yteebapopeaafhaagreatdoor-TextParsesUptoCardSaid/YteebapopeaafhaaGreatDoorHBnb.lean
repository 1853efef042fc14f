/-
  HELPERS over any program: methods and codes that lie in memory of one's own. Conditions: none.
  CONTRACTS: Bent of taciturnhand: an applet with something turned. Conditions: its methods' codes are not long.
-/
import Derived.Test.YteebapopeaafhaaGreatDoorHCd
import Derived.Test.YteebapopeaafhaaGreatDoorHCodeP
import Derived.Test.YteebapopeaafhaaGreatDoorHImw
import Derived.Test.YteebapopeaafhaaGreatDoorHHand
namespace Go.Tcn
open Go.RowKit
set_option linter.unusedVariables false
set_option linter.unusedSimpArgs false
theorem flatten_set {css : List (List Value)} {sz k : Nat} (hs : ∀ cs ∈ css, cs.length = sz) (hk : k < css.length) {j : Nat} (hj : j < sz) (u : Value) : css.flatten.set (k * sz + j) u = (css.set k (css[k].set j u)).flatten := by
  induction css generalizing k with
  | nil => simp at hk
  | cons c css ih =>
    have hc : c.length = sz := hs c (by simp)
    cases k with
    | zero =>
      simp only [Nat.zero_mul, Nat.zero_add, List.flatten_cons, List.set_cons_zero, List.getElem_cons_zero]
      rw [List.set_append_left _ _ (by omega)]
    | succ k =>
      have e : (k + 1) * sz + j = c.length + (k * sz + j) := by rw [hc, Nat.add_mul]; omega
      simp only [List.flatten_cons, List.set_cons_succ, List.getElem_cons_succ]
      rw [e, List.set_append_right _ _ (by omega), Nat.add_sub_cancel_left, ih (fun cs h => hs cs (by simp [h])) (by simpa using hk)]
/-- Methods in a block of one's own; what they point to lies elsewhere, and in none of L. -/
structure MOwn (w : World) (T : TypeId) (g cap : Nat) (L : List Nat) (ms : List Mth) : Prop where
  ex : ∃ css : List (List Value), css.length = ms.length ∧ (∀ cs ∈ css, cs.length = 4) ∧ w.ownsRow 0 T 4 (.slice (some ⟨g, 0, none⟩) ms.length cap) ms.length css.flatten ∧ ∀ (k : Nat) cs x, css[k]? = some cs → ms[k]? = some x → RMth w (g :: L) cs x
theorem MOwn.turn {w w' : World} {T : TypeId} {g cap : Nat} {L L' : List Nat} {ms : List Mth} (h : MOwn w T g cap L ms) (t : Tch L' w w') (hs : ∀ i ∈ L', i ∈ L ∧ i ≠ g) : MOwn w' T g cap L ms := by
  obtain ⟨css, h1, h2, h3, h4⟩ := h.ex
  exact ⟨css, h1, h2, ownsRow_tch h3 t (fun k hk hx => (hs k hx).2 (by simpa [Value.ownBlock] using hk.symm)), fun k cs x a b => (h4 k cs x a b).tch t (fun i hi _ => List.mem_cons_of_mem _ (hs i hi).1)⟩
theorem MOwn.tch {w w' : World} {T : TypeId} {g cap : Nat} {L : List Nat} {ms : List Mth} (h : MOwn w T g cap L ms) (t : Tch [] w w') : MOwn w' T g cap L ms := h.turn t (by simp)
theorem MOwn.mths {w : World} {T : TypeId} {g cap : Nat} {L L0 : List Nat} {ms : List Mth} (h : MOwn w T g cap L ms) (hs : ∀ i ∈ L0, i ∈ L ∧ i ≠ g) : RMths w L0 (.slice (some ⟨g, 0, none⟩) ms.length cap) ms := by
  obtain ⟨css, h1, h2, h3, h4⟩ := h.ex
  exact ⟨css, h1, h2, src_of_owns h3 L0 (fun k hk hx => (hs k hx).2 (by simpa [Value.ownBlock] using hk.symm)), fun k cs x a b => (h4 k cs x a b).mono (fun i hi _ => List.mem_cons_of_mem _ (hs i hi).1)⟩
theorem MOwn.at {w : World} {T : TypeId} {g cap : Nat} {L : List Nat} {ms : List Mth} (h : MOwn w T g cap L ms) (k : Nat) (hk : k < ms.length) : ∃ vp vl vc, RInts w (g :: L) vp ms[k].params ∧ RInts w (g :: L) vl ms[k].locals ∧ RCode w (g :: L) vc ms[k].code ∧ w.cell? ⟨g, k * 4, none⟩ = some vp ∧ w.cell? ⟨g, k * 4 + 1, none⟩ = some (.int .i64 ms[k].result) ∧ w.cell? ⟨g, k * 4 + 2, none⟩ = some vl ∧ w.cell? ⟨g, k * 4 + 3, none⟩ = some vc := by
  obtain ⟨css, h1, h2, h3, h4⟩ := h.ex
  have hk' : k < css.length := by omega
  obtain ⟨vp, vl, vc, hc, r1, r2, r3⟩ := h4 k css[k] ms[k] (by simp [hk']) (by simp [hk])
  have hat : ∀ (j : Nat) u, j < 4 → css[k][j]? = some u → w.cell? ⟨g, k * 4 + j, none⟩ = some u := fun j u hj hu => by
    rw [World.ownsRow.cellAt h3 (k * 4 + j) (by omega), flatten_at h2 hk' hj]; exact hu
  rw [hc] at hat
  exact ⟨vp, vl, vc, r1, r2, r3, hat 0 _ (by omega) rfl, hat 1 _ (by omega) rfl, hat 2 _ (by omega) rfl, hat 3 _ (by omega) rfl⟩
theorem MOwn.frozen {w : World} {T : TypeId} {g cap : Nat} {L : List Nat} {ms : List Mth} (h : MOwn w T g cap L ms) (j : Nat) : w.frozen? ⟨g, j, none⟩ = false := by
  obtain ⟨css, h1, h2, h3, h4⟩ := h.ex
  exact World.ownsRow.frozenAt h3 j
theorem MOwn.lt {w : World} {T : TypeId} {g cap : Nat} {L : List Nat} {ms : List Mth} (h : MOwn w T g cap L ms) : g < w.heap.size := by
  obtain ⟨css, h1, h2, h3, h4⟩ := h.ex
  exact (World.ownsRow.lt h3 g rfl).2
/-- A method's code is set anew. -/
theorem MOwn.put {w : World} {T : TypeId} {g cap : Nat} {L : List Nat} {ms : List Mth} (h : MOwn w T g cap L ms) (k : Nat) (hk : k < ms.length) (vc : Value) (c : List Ins) (hc : RCode w (g :: L) vc c) : MOwn (w.setCell ⟨g, k * 4 + 3, none⟩ vc) T g cap L (ms.set k { ms[k] with code := c }) := by
  obtain ⟨css, h1, h2, h3, h4⟩ := h.ex
  have hk' : k < css.length := by omega
  obtain ⟨vp, vl, vc0, hcs, r1, r2, r3⟩ := h4 k css[k] ms[k] (by simp [hk']) (by simp [hk])
  have tt : Tch [g] w (w.setCell ⟨g, k * 4 + 3, none⟩ vc) := (Tch.refl _ w).setCell (.inl (by simp)) _
  have sub : ∀ i ∈ [g], i < w.heap.size → i ∈ g :: L := fun i hi _ => by simp at hi; simp [hi]
  refine ⟨css.set k (css[k].set 3 vc), by simp [h1], fun cs hm => ?_, ?_, fun j cs x hj hx => ?_⟩
  · rcases List.mem_or_eq_of_mem_set hm with h | h
    · exact h2 cs h
    · rw [h, List.length_set]; exact h2 _ (List.getElem_mem hk')
  · have := (h3.stored (k * 4 + 3) vc).1
    rw [flatten_set h2 hk' (by omega)] at this
    simpa using this
  · rw [List.getElem?_set] at hj hx
    by_cases e : k = j
    · subst e
      rw [if_pos rfl, if_pos hk'] at hj
      rw [if_pos rfl, if_pos hk] at hx
      simp only [Option.some.injEq] at hj hx
      subst hj hx
      rw [hcs]
      exact ⟨vp, vl, vc, rfl, r1.tch tt sub, r2.tch tt sub, hc.tch tt sub⟩
    · rw [if_neg e] at hj hx
      exact (h4 j cs x hj hx).tch tt sub
/-- Methods copied behind nothing. -/
theorem MOwn.copy {w : World} {L0 : List Nat} {v : Value} {ms : List Mth} (h : RMths w L0 v ms) : ∃ css : List (List Value), Src w [] v ms.length css.flatten ∧ css.flatten.length = ms.length * 4 ∧ (∀ u ∈ css.flatten, u.oneCell' = true) ∧ ∀ (w1 : World) (T : TypeId) (g cap : Nat) (L : List Nat), Tch [] w w1 → (∀ i ∈ g :: L, i < w.heap.size → i ∈ L0) → w1.ownsRow 0 T 4 (.slice (some ⟨g, 0, none⟩) ms.length cap) ms.length css.flatten → MOwn w1 T g cap L ms := by
  obtain ⟨css, h1, h2, h3, h4⟩ := h.ex
  refine ⟨css, h3.mono (by simp), by rw [flatten_length h2, h1], fun u hu => ?_, fun w1 T g cap L t hg ho => ⟨css, h1, h2, ho, fun k cs x a b => ?_⟩⟩
  · rw [List.mem_flatten] at hu
    obtain ⟨cs, hcs, hu⟩ := hu
    obtain ⟨k, hk, rfl⟩ := List.getElem_of_mem hcs
    obtain ⟨vp, vl, vc, hc, r1, r2, r3⟩ := h4 k css[k] (ms[k]'(by omega)) (by simp [hk]) (by simp)
    rw [hc] at hu
    obtain ⟨_, _, rfl⟩ := Src.form r1
    obtain ⟨_, _, rfl⟩ := Src.form r2
    obtain ⟨_, _, rfl⟩ := Src.form r3
    simp at hu
    rcases hu with rfl | rfl | rfl | rfl <;> rfl
  · exact ((h4 k cs x a b).mono hg).tch t (by simp)
/-- Numbers of instructions that fit. -/
def InsZ (x : Ins) : Prop := I6 x.op ∧ I6 x.a ∧ I6 x.b
def CodZ (c : List Ins) : Prop := ∀ x ∈ c, InsZ x
theorem i6s {x : Int} (h1 : -1000000 ≤ x) (h2 : x ≤ 1000000) : I6 x := by unfold I6; omega
theorem insZ_mk {o a b : Int} (h1 : I6 o) (h2 : I6 a) (h3 : I6 b) : InsZ ⟨o, a, b⟩ := ⟨h1, h2, h3⟩
theorem CodZ.append {c d : List Ins} (h : CodZ c) (k : CodZ d) : CodZ (c ++ d) := fun x hx => by
  rcases List.mem_append.1 hx with hx | hx
  · exact h x hx
  · exact k x hx
theorem CodZ.take {c : List Ins} (h : CodZ c) (n : Nat) : CodZ (c.take n) := fun x hx => h x (List.mem_of_mem_take hx)
theorem CodZ.drop {c : List Ins} (h : CodZ c) (n : Nat) : CodZ (c.drop n) := fun x hx => h x (List.mem_of_mem_drop hx)
theorem CodZ.set {c : List Ins} (h : CodZ c) (n : Nat) {y : Ins} (hy : InsZ y) : CodZ (c.set n y) := fun x hx => by
  rcases List.mem_or_eq_of_mem_set hx with hx | hx
  · exact h x hx
  · exact hx ▸ hy
theorem CodZ.one {y : Ins} (hy : InsZ y) : CodZ [y] := fun x hx => by
  simp at hx; exact hx ▸ hy
theorem codeCells_app (c d : List Ins) : codeCells (c ++ d) = codeCells c ++ codeCells d := by simp [codeCells]
theorem codeCells_takeN (c : List Ins) (n : Nat) : (codeCells c).take (n * 3) = codeCells (c.take n) := by
  induction c generalizing n with
  | nil => simp [codeCells]
  | cons x c ih =>
    cases n with
    | zero => simp [codeCells]
    | succ n =>
      rw [codeCells_cons, List.take_succ_cons, codeCells_cons, show (n + 1) * 3 = n * 3 + 1 + 1 + 1 by omega]
      simp only [List.take_succ_cons, ih]
theorem codeCells_dropN (c : List Ins) (n : Nat) : (codeCells c).drop (n * 3) = codeCells (c.drop n) := by
  induction c generalizing n with
  | nil => simp [codeCells]
  | cons x c ih =>
    cases n with
    | zero => simp
    | succ n =>
      rw [codeCells_cons, List.drop_succ_cons, show (n + 1) * 3 = n * 3 + 1 + 1 + 1 by omega]
      simp only [List.drop_succ_cons, ih]
theorem codeCells_at3 (c : List Ins) (j : Nat) (hj : j < c.length) : (codeCells c)[j * 3]? = some (.int .i64 c[j].op) ∧ (codeCells c)[j * 3 + 1]? = some (.int .i64 c[j].a) ∧ (codeCells c)[j * 3 + 2]? = some (.int .i64 c[j].b) := by
  induction c generalizing j with
  | nil => simp at hj
  | cons x c ih =>
    cases j with
    | zero => exact ⟨rfl, rfl, rfl⟩
    | succ j =>
      have := ih j (by simpa using hj)
      rw [codeCells_cons, show (j + 1) * 3 = j * 3 + 1 + 1 + 1 by omega, show j * 3 + 1 + 1 + 1 + 1 = (j * 3 + 1) + 1 + 1 + 1 by omega, show j * 3 + 1 + 1 + 1 + 2 = (j * 3 + 2) + 1 + 1 + 1 by omega]
      simpa using this
theorem codeCells_set0 (c : List Ins) (j : Nat) (hj : j < c.length) (a : Int) : (codeCells c).set (j * 3) (.int .i64 a) = codeCells (c.set j ⟨a, c[j].a, c[j].b⟩) := by
  induction c generalizing j with
  | nil => simp at hj
  | cons x c ih =>
    cases j with
    | zero => rfl
    | succ j =>
      have := ih j (by simpa using hj)
      rw [codeCells_cons, show (j + 1) * 3 = (j * 3) + 1 + 1 + 1 by omega]
      simp only [List.set_cons_succ, List.getElem_cons_succ, codeCells_cons, this]
theorem codeCells_set2 (c : List Ins) (j : Nat) (hj : j < c.length) (a : Int) : (codeCells c).set (j * 3 + 2) (.int .i64 a) = codeCells (c.set j ⟨c[j].op, c[j].a, a⟩) := by
  induction c generalizing j with
  | nil => simp at hj
  | cons x c ih =>
    cases j with
    | zero => rfl
    | succ j =>
      have := ih j (by simpa using hj)
      rw [codeCells_cons, show (j + 1) * 3 + 2 = (j * 3 + 2) + 1 + 1 + 1 by omega]
      simp only [List.set_cons_succ, List.getElem_cons_succ, codeCells_cons, this]
theorem codeCells_set3 (c : List Ins) (j : Nat) (hj : j < c.length) (o a b : Int) : (((codeCells c).set (j * 3) (.int .i64 o)).set (j * 3 + 1) (.int .i64 a)).set (j * 3 + 2) (.int .i64 b) = codeCells (c.set j ⟨o, a, b⟩) := by
  rw [codeCells_set0 c j hj, codeCells_set _ j (by simpa using hj), codeCells_set2 _ j (by simpa using hj)]
  simp
theorem codeCells_one (c : List Ins) : ∀ u ∈ codeCells c, u.oneCell' = true := by
  intro u hu
  simp only [codeCells, List.mem_flatten, List.mem_map] at hu
  obtain ⟨_, ⟨x, _, rfl⟩, hu⟩ := hu
  simp [Ins.cells] at hu
  rcases hu with rfl | rfl | rfl <;> rfl
theorem right_z {x : Ins} (h : rightI x.op x.a x.b = true) : InsZ x := by
  unfold rightI at h
  have := of_decide_eq_true h
  obtain ⟨h1, h2, h3, h4, h5⟩ := this
  unfold InsZ I6
  have l1 : -2147483648 ≤ limLo x.op := by unfold limLo; repeat' split
                                           all_goals omega
  have l2 : limHi x.op ≤ 2147483647 := by unfold limHi; repeat' split
                                          all_goals omega
  refine ⟨by omega, by omega, by split at h5 <;> omega⟩
end Go.Tcn
namespace Go.Proofs.YteebapopeaafhaaGreatDoor
open Go.RowKit Go.Tcn
set_option linter.unusedVariables false
set_option linter.unusedSimpArgs false
theorem info_mthB : (Tryz.prog.info? 55).map (fun i => (i.zero, i.size, i.bytes)) = some (some (.agg #[.slice none 0 0, .int .i64 0, .slice none 0 0, .slice none 0 0]), 4, 80) := by kernel_rfl
theorem info_insB : (Tryz.prog.info? 57).map (fun i => (i.zero, i.size, i.bytes)) = some (some (.agg #[.int .i64 0, .int .i64 0, .int .i64 0]), 3, 24) := by kernel_rfl
/-- What Bent leaves of the methods. -/
def BentM (ms ms' : List Mth) : Prop := ms'.length = ms.length ∧ ∀ m ∈ ms', m.code.length ≤ 1001 ∧ CodZ m.code ∧ ∃ m0 ∈ ms, m.params = m0.params ∧ m.locals = m0.locals ∧ m.result = m0.result
set_option maxRecDepth 100000 in
set_option maxHeartbeats 16000000 in
theorem hand_Bent (w : World) (i : Img) (vf vi vm ve : Value) (hf : RInts w [] vf i.fields) (hi : RImps w [] vi i.imports) (L0 : List Nat) (hL0 : ∀ i ∈ L0, i < w.heap.size) (hm : RMths w L0 vm i.methods) (he : RInts w [] ve i.exports) (hn : 1 ≤ i.methods.length ∧ i.methods.length ≤ 1000) (hc : ∀ m ∈ i.methods, m.code.length ≤ 1000 ∧ CodZ m.code) (how at0 by0 : Int) (hhow : I6 how) (hat : I6 at0) (hby : I6 by0) :
    Calls Tryz.prog 15 #[.agg #[.string ⟨i.name.toArray⟩, vf, vi, vm, ve], .int .i64 how, .int .i64 at0, .int .i64 by0] w fun e w' => ∃ (vm' : Value) (ms' : List Mth), e = .returned (.agg #[.string ⟨i.name.toArray⟩, vf, vi, vm', ve]) ∧ RMths w' L0 vm' ms' ∧ BentM i.methods ms' ∧ Tch [] w w' := by
  obtain ⟨iM, hiM, hzM0, hzM1, hzM2⟩ := info_parts info_mthB
  obtain ⟨iI, hiI, hzI0, hzI1, hzI2⟩ := info_parts info_insB
  obtain ⟨af, cf, rfl⟩ := Src.form hf
  obtain ⟨ae, ce, rfl⟩ := Src.form he
  obtain ⟨ai, ci, rfl⟩ := RImps.form hi
  obtain ⟨am, cm, rfl⟩ := RMths.form hm
  clear hf he hi
  obtain ⟨V, hV⟩ : ∃ V, V = (w.alloc (.cells #[.string ⟨i.name.toArray⟩, .slice af i.fields.length cf, .slice ai i.imports.length ci, .slice am i.methods.length cm, .slice ae i.exports.length ce] 30)).alloc (.cells #[.string ⟨#[]⟩, .slice none 0 0, .slice none 0 0, .slice none 0 0, .slice none 0 0] 30) := ⟨_, rfl⟩
  have tV : Tch [] w V := by rw [hV]; exact ((Tch.refl [] w).alloc _).alloc _
  have hX : V.heap[w.heap.size]? = some (.cells #[.string ⟨i.name.toArray⟩, .slice af i.fields.length cf, .slice ai i.imports.length ci, .slice am i.methods.length cm, .slice ae i.exports.length ce] 30 (0, 0)) := by
    rw [hV, Below.heap_alloc _ _ _ (by simp)]; exact heap_alloc_new w _
  have hZ : V.heap[w.heap.size + 1]? = some (.cells #[.string ⟨#[]⟩, .slice none 0 0, .slice none 0 0, .slice none 0 0, .slice none 0 0] 30 (0, 0)) := by
    rw [hV]; simpa using heap_alloc_new (w.alloc (.cells #[.string ⟨i.name.toArray⟩, .slice af i.fields.length cf, .slice ai i.imports.length ci, .slice am i.methods.length cm, .slice ae i.exports.length ce] 30)) _
  have hVs : w.heap.size + 1 < V.heap.size := heap_lt hZ
  have c3 : V.cell? ⟨w.heap.size, 3, none⟩ = some (.slice am i.methods.length cm) := by simp [World.cell?, hX]
  have hmV := hm.tch tV (by simp)
  go_enter Tryz.func15, Tryz.ntmps15
  go_upto_region 1 with fail
  rw [← hV]
  clear hV
  have hm0 := hm
  clear hm
  obtain ⟨css, hsrc, hcl, hco, hmk⟩ := MOwn.copy hm0
  have hn0 : 0 + i.methods.length ≤ 9223372036854775807 ∧ (0 + i.methods.length) * 80 ≤ 140737488355328 := by omega
  have hown0 : (V.alloc (.cells #[] 55)).ownsRow 0 55 4 (.slice (some ⟨V.heap.size, 0, none⟩) 0 0) 0 [] := World.ownsRow_lit V #[] 0 (Nat.zero_le _) (by decide) rfl
  have hsrc1 := hsrc.tch (tV.then ((Tch.refl [] V).alloc (.cells #[] 55))) (by simp)
  have c3a : (V.alloc (.cells #[] 55)).cell? ⟨w.heap.size, 3, none⟩ = some (.slice am i.methods.length cm) := by rw [((Tch.refl [] V).alloc (.cells #[] 55)).cell (cell_lt c3) (by simp)]; exact c3
  go_upto_region 2 with (at_builtin; refine wpList_append_any _ rfl (.tmp 13) (.tmp 15) 28 rfl 55 iM (.agg #[.slice none 0 0, .int .i64 0, .slice none 0 0, .slice none 0 0]) 4 80 Tryz.underlying28 hiM hzM0 hzM1 hzM2 rfl (by decide) (.slice (some ⟨V.heap.size, 0, none⟩) 0 0) 0 [] rfl hown0 [] _ i.methods.length css.flatten rfl hsrc1 hcl hco hn0 ?_; intro ao cap W1 hown1 hgrow hat1)
  simp only [Nat.zero_add, List.nil_append] at hown1 hat1 ⊢
  have t1 : Tch [] V W1 := ((Tch.refl [] V).alloc _).grown hgrow (fun g h => .inr (by simp [Value.ownBlock] at h; omega))
  obtain ⟨g, cap', e, hcapn, _⟩ := World.ownsRow.form hown1 (by omega)
  simp only [Value.slice.injEq] at e
  obtain ⟨rfl, _, rfl⟩ := e
  have hgV : V.heap.size ≤ g := by
    rcases hat1 with e | e
    · simp [Value.ownBlock] at e; omega
    · simp [Value.ownBlock] at e; omega
  have hsub0 : ∀ i ∈ g :: w.heap.size :: (w.heap.size + 1) :: L0, i < w.heap.size → i ∈ L0 := fun i hi hlt => by
    simp only [List.mem_cons] at hi
    rcases hi with hi | hi | hi | hi
    · omega
    · omega
    · omega
    · exact hi
  have hM := hmk W1 55 g cap (w.heap.size :: (w.heap.size + 1) :: L0) (tV.then t1) hsub0 hown1
  have hX1 : W1.heap[w.heap.size]? = _ := (t1.block _ (by omega) (by simp)).trans hX
  have hZ1 : W1.heap[w.heap.size + 1]? = _ := (t1.block _ (by omega) (by simp)).trans hZ
  have T1 := tV.then t1
  clear hmk hown1 hgrow hat1 hsrc hsrc1 hown0 hcl hco hn0 c3 c3a hX hZ
  obtain ⟨k, hk, hkn⟩ : ∃ k : Nat, at0 % (i.methods.length : Int) = k ∧ k < i.methods.length := by
    have e1 := Int.emod_nonneg at0 (show (i.methods.length : Int) ≠ 0 by omega)
    have e2 := Int.emod_lt_of_pos at0 (show (0 : Int) < (i.methods.length : Int) by omega)
    exact ⟨(at0 % (i.methods.length : Int)).toNat, by omega, by omega⟩
  have hP1 := hand_Pick at0 i.methods.length hat (by omega) (by omega) W1
  rw [hk] at hP1
  clear hk
  go_wp2_with fail
  refine hP1.mono ?_
  rintro e w' ⟨rfl, rfl⟩
  obtain ⟨vp, vl, vc, hvp, hvl, hvc, m0, m1, m2, m3⟩ := hM.at k hkn
  obtain ⟨hc1, hcz⟩ := hc _ (List.getElem_mem hkn)
  have hmem := List.getElem_mem hkn
  have hPut := fun (W : World) (t : Tch [] W1 W) vc' c' (h : RCode W (g :: w.heap.size :: (w.heap.size + 1) :: L0) vc' c') => (hM.tch t).put k hkn vc' c' h
  have hMt := fun (W : World) (t : Tch [] W1 W) => hM.tch t
  generalize i.methods[k] = mt at *
  obtain ⟨c, hcd⟩ : ∃ c, c = mt.code := ⟨_, rfl⟩
  rw [← hcd] at hc1 hcz hvc
  have HCD := Lib.hid hcd
  clear hcd
  obtain ⟨ac, cc, rfl⟩ := RCode.form hvc
  have hn1 : 0 + c.length ≤ 9223372036854775807 ∧ (0 + c.length) * 24 ≤ 140737488355328 := by omega
  have hown0 : (W1.alloc (.cells #[] 57)).ownsRow 0 57 3 (.slice (some ⟨W1.heap.size, 0, none⟩) 0 0) 0 [] := World.ownsRow_lit W1 #[] 0 (Nat.zero_le _) (by decide) rfl
  have hsrc1 := Src.tch (L' := []) (Src.mono (L' := []) hvc (by simp)) ((Tch.refl [] W1).alloc (.cells #[] 57)) (by simp)
  have hcl := codeCells_len' c
  have m3a : (W1.alloc (.cells #[] 57)).cell? ⟨g, k * 4 + 3, none⟩ = some (.slice ac c.length cc) := by rw [((Tch.refl [] W1).alloc (.cells #[] 57)).cell (cell_lt m3) (by simp)]; exact m3
  go_upto_region 4 with (at_builtin; refine wpList_append_any _ rfl (.tmp 21) (.tmp 26) 53 rfl 57 iI (.agg #[.int .i64 0, .int .i64 0, .int .i64 0]) 3 24 Tryz.underlying53 hiI hzI0 hzI1 hzI2 rfl (by decide) (.slice (some ⟨W1.heap.size, 0, none⟩) 0 0) 0 [] rfl hown0 [] _ c.length (codeCells c) rfl hsrc1 hcl (codeCells_one c) hn1 ?_; intro ao2 cap2 W2 hown2 hgrow2 hat2)
  simp only [Nat.zero_add, List.nil_append] at hown2 hat2 ⊢
  have t2 : Tch [] W1 W2 := ((Tch.refl [] W1).alloc _).grown hgrow2 (fun g h => .inr (by simp [Value.ownBlock] at h; omega))
  have hg2 : ∀ q, (Value.slice ao2 c.length cap2).ownBlock = some q → W1.heap.size ≤ q := fun q hq => by
    rcases hat2 with e | e
    · rw [hq] at e; simp [Value.ownBlock] at e; omega
    · rw [hq] at e; simp at e; omega
  have hgW := hM.lt
  clear hgrow2 hat2 hsrc1 hown0 hn1 m0 m1 m2 m3 m3a hvp hvl hvc
  have T2 := T1.then t2
  have hs1 := t1.size
  have hs2 := t2.size
  have hX2 : W2.heap[w.heap.size]? = _ := (t2.block _ (by omega) (by simp)).trans hX1
  have hZ2 : W2.heap[w.heap.size + 1]? = _ := (t2.block _ (by omega) (by simp)).trans hZ1
  by_cases hc0 : c.length = 0
  · have hcb : (((c.length : Nat) : Int) == 0) = true := by rw [hc0]; rfl
    have hXn : ∀ (j : Nat) u, (#[.string ⟨i.name.toArray⟩, .slice af i.fields.length cf, .slice ai i.imports.length ci, .slice am i.methods.length cm, .slice ae i.exports.length ce] : Array Value).toList[j]? = some u → W2.cell? ((⟨w.heap.size, 0, none⟩ : Addr).add j) = some u := fun j u hj => World.news_of_block hX2 j u hj
    obtain ⟨y0, y1, y2, y3, y4, g0, g1, g2, g3, g4⟩ := F5.of hZ2
    go_wp2_with (first | (refine wpList_load_agg rfl 30 (.tmp 4) rfl ⟨w.heap.size, 0, none⟩ rfl #[.string ⟨i.name.toArray⟩, .slice af i.fields.length cf, .slice ai i.imports.length ci, .slice am i.methods.length cm, .slice ae i.exports.length ce] _ hXn Tryz.underlying30 rfl (by kernel_rfl) ?_) | fail)
    refine bodyPost_ret (v := .agg #[.string ⟨i.name.toArray⟩, .slice af i.fields.length cf, .slice ai i.imports.length ci, .slice am i.methods.length cm, .slice ae i.exports.length ce]) (by simp [results, Tryz.results15, go_sem, y0, y1, y2, y3, y4, g0, g1, g2, g3, g4]) rfl ?_
    have TR : Tch [w.heap.size + 1] W2 (((((W2.setCell ⟨w.heap.size + 1, 0, none⟩ (.string ⟨i.name.toArray⟩)).setCell ⟨w.heap.size + 1, 1, none⟩ (.slice af i.fields.length cf)).setCell ⟨w.heap.size + 1, 2, none⟩ (.slice ai i.imports.length ci)).setCell ⟨w.heap.size + 1, 3, none⟩ (.slice am i.methods.length cm)).setCell ⟨w.heap.size + 1, 4, none⟩ (.slice ae i.exports.length ce)) := ((((((Tch.refl [w.heap.size + 1] W2).setCell (.inl (by simp)) _).setCell (.inl (by simp)) _).setCell (.inl (by simp)) _).setCell (.inl (by simp)) _).setCell (.inl (by simp)) _)
    have TRw : Tch [] w (((((W2.setCell ⟨w.heap.size + 1, 0, none⟩ (.string ⟨i.name.toArray⟩)).setCell ⟨w.heap.size + 1, 1, none⟩ (.slice af i.fields.length cf)).setCell ⟨w.heap.size + 1, 2, none⟩ (.slice ai i.imports.length ci)).setCell ⟨w.heap.size + 1, 3, none⟩ (.slice am i.methods.length cm)).setCell ⟨w.heap.size + 1, 4, none⟩ (.slice ae i.exports.length ce)) := T2.trans TR (by simp) (fun i hi hx => by simp at hx; omega)
    refine ⟨_, rfl, i.methods, hm0.tch TRw (by simp), ⟨rfl, fun m hm => ⟨Nat.le_succ_of_le (hc m hm).1, (hc m hm).2, m, hm, rfl, rfl, rfl⟩⟩, TRw⟩
  · have hcb : (((c.length : Nat) : Int) == 0) = false := beq_eq_false_iff_ne.2 (by omega)
    go_wp2_with fail
    have hcpos : 1 ≤ c.length := by omega
    have hP2 := hand_Pick (wrap64 (at0.tdiv 7)) c.length (by have : I6 (wrap64 (at0.tdiv 7)) := @wrap64_I6 ⟨true, []⟩ _; exact this) (by omega) (by omega) W2
    obtain ⟨pc, hpc, hpcn⟩ : ∃ k : Nat, wrap64 (at0.tdiv 7) % (c.length : Int) = k ∧ k < c.length := by
      have e1 := Int.emod_nonneg (wrap64 (at0.tdiv 7)) (show (c.length : Int) ≠ 0 by omega)
      have e2 := Int.emod_lt_of_pos (wrap64 (at0.tdiv 7)) (show (0 : Int) < (c.length : Int) by omega)
      exact ⟨(wrap64 (at0.tdiv 7) % (c.length : Int)).toNat, by omega, by omega⟩
    rw [hpc] at hP2
    clear hpc hcb hc0
    refine hP2.mono ?_
    rintro e w' ⟨rfl, rfl⟩
    go_wp2_with fail
    have hP3 := hand_Pick how 14 hhow (by omega) (by omega) W2
    obtain ⟨p, hp, hp0, hp14⟩ : ∃ p : Int, p = how % 14 ∧ 0 ≤ p ∧ p < 14 := ⟨_, rfl, by omega, by omega⟩
    rw [← hp] at hP3
    clear hp
    refine hP3.mono ?_
    rintro e w' ⟨rfl, rfl⟩
    go_upto_block 0 with fail
    obtain ⟨gc, cap2', e, hcapc, _⟩ := World.ownsRow.form hown2 (by omega)
    simp only [Value.slice.injEq] at e
    obtain ⟨rfl, _, rfl⟩ := e
    have hgc : W1.heap.size ≤ gc := hg2 gc rfl
    obtain ⟨a0, a1, a2⟩ := codeCells_at3 c pc hpcn
    have o0 : W2.cell? ⟨gc, pc * 3, none⟩ = some (.int .i64 c[pc].op) := (World.ownsRow.cellAt hown2 (pc * 3) (by omega)).trans a0
    have o1 : W2.cell? ⟨gc, pc * 3 + 1, none⟩ = some (.int .i64 c[pc].a) := (World.ownsRow.cellAt hown2 (pc * 3 + 1) (by omega)).trans a1
    have o2 : W2.cell? ⟨gc, pc * 3 + 2, none⟩ = some (.int .i64 c[pc].b) := (World.ownsRow.cellAt hown2 (pc * 3 + 2) (by omega)).trans a2
    have f0 : W2.frozen? ⟨gc, pc * 3, none⟩ = false := World.ownsRow.frozenAt hown2 _
    have f1 : W2.frozen? ⟨gc, pc * 3 + 1, none⟩ = false := World.ownsRow.frozenAt hown2 _
    have f2 : W2.frozen? ⟨gc, pc * 3 + 2, none⟩ = false := World.ownsRow.frozenAt hown2 _
    have hx := hcz _ (List.getElem_mem hpcn)
    have hS0 := codeCells_set0 c pc hpcn
    have hS1 := codeCells_set c pc hpcn
    have hS3 := codeCells_set3 c pc hpcn
    have hfarL : ∀ k, W1.heap.size ≤ k → k ∉ g :: w.heap.size :: (w.heap.size + 1) :: L0 := fun k hk hx => by
      simp only [List.mem_cons] at hx
      rcases hx with hx | hx | hx | hx
      · omega
      · omega
      · omega
      · have := hL0 k hx; omega
    have hRC : ∀ (W : World) (q : Nat) (cp : Nat) (d : List Ins), W.ownsRow 0 57 3 (.slice (some ⟨q, 0, none⟩) d.length cp) d.length (codeCells d) → W1.heap.size ≤ q → RCode W (g :: w.heap.size :: (w.heap.size + 1) :: L0) (.slice (some ⟨q, 0, none⟩) d.length cp) d := fun W q cp d h hq => src_of_owns h (g :: w.heap.size :: (w.heap.size + 1) :: L0) (fun k hk hx => by simp [Value.ownBlock] at hk; exact hfarL k (by omega) hx)
    generalize c[pc] = x at *
    clear a0 a1 a2 hP1 hP2 hP3
    go_cut [11] (fun v wz => ∃ (c' : List Ins) (ao' : Option Addr) (cap' : Nat), v = .slice ao' c'.length cap' ∧ RCode wz (g :: w.heap.size :: (w.heap.size + 1) :: L0) (.slice ao' c'.length cap') c' ∧ c'.length ≤ 1001 ∧ CodZ c' ∧ Tch [] W1 wz)
    case first =>
      have hps : p = 0 ∨ p = 1 ∨ p = 2 ∨ p = 3 ∨ p = 4 ∨ p = 5 ∨ p = 6 ∨ p = 7 ∨ p = 8 ∨ (¬ p = 0 ∧ ¬ p = 1 ∧ ¬ p = 2 ∧ ¬ p = 3 ∧ ¬ p = 4 ∧ ¬ p = 5 ∧ ¬ p = 6 ∧ ¬ p = 7 ∧ ¬ p = 8) := by omega
      clear hp0 hp14
      rcases hps with rfl | rfl | rfl | rfl | rfl | rfl | rfl | rfl | rfl | ⟨n0, n1, n2, n3, n4, n5, n6, n7, n8⟩
      · skip
        have hPb := hand_Pick by0 39 hby (by omega) (by omega) W2
        obtain ⟨b, hb, hb0, hbm⟩ : ∃ b : Int, b = by0 % 39 ∧ 0 ≤ b ∧ b < 39 := ⟨_, rfl, Int.emod_nonneg _ (by omega), Int.emod_lt_of_pos _ (by omega)⟩
        rw [← hb] at hPb
        clear hb
        go_wp2_with fail
        refine hPb.mono ?_
        rintro e w' ⟨rfl, rfl⟩
        have hw1 : IntKind.i64.wrap (1 + b) = 1 + b := IntWalk.i64_in _ (by omega)
        go_wp2_with fail
        go_meet
        refine ⟨c.set pc ⟨1 + b, x.a, x.b⟩, some ⟨gc, 0, none⟩, cap2, by simp, ?_, by simp; omega, hcz.set pc (insZ_mk (i6s (by omega) (by omega)) hx.2.1 hx.2.2), t2.setCell (.inr hgc) _⟩
        have h := (hown2.stored (pc * 3) (.int .i64 (1 + b))).1
        rw [hS0] at h
        exact hRC _ _ _ _ (by simpa using h) hgc
      · have hPb := hand_Pick by0 12 hby (by omega) (by omega) W2
        obtain ⟨b, hb, hb0, hbm⟩ : ∃ b : Int, b = by0 % 12 ∧ 0 ≤ b ∧ b < 12 := ⟨_, rfl, Int.emod_nonneg _ (by omega), Int.emod_lt_of_pos _ (by omega)⟩
        rw [← hb] at hPb
        clear hb
        go_wp2_with fail
        refine hPb.mono ?_
        rintro e w' ⟨rfl, rfl⟩
        go_wp2_with fail
        go_meet
        refine ⟨c.set pc ⟨x.op, b, x.b⟩, some ⟨gc, 0, none⟩, cap2, by simp, ?_, by simp; omega, hcz.set pc (insZ_mk hx.1 (i6s (by omega) (by omega)) hx.2.2), t2.setCell (.inr hgc) _⟩
        have h := (hown2.stored (pc * 3 + 1) (.int .i64 b)).1
        rw [hS1] at h
        exact hRC _ _ _ _ (by simpa using h) hgc
      · skip
        have hS := src_of_owns hown2 (g :: w.heap.size :: (w.heap.size + 1) :: L0) (fun k hk hx => by simp [Value.ownBlock] at hk; exact hfarL k (by omega) hx)
        have hcap2 : c.length ≤ cap2 := by
          rcases hS.ex with ⟨h, _⟩ | ⟨ad, q, h, hm, _⟩
          · cases h
          · simp only [Value.slice.injEq] at h
            omega
        have hcut1 := fun W => run_cut_h 53 57 3 Tryz.underlying53 (by kernel_rfl) (by kernel_rfl) (some ⟨gc, 0, none⟩) c.length cap2 pc (by omega) W
        have hA := Src.mono (L' := []) (hS.cut_h (n := pc) (sz := 3) (by omega)) (by simp)
        rw [codeCells_takeN] at hA
        have hlA : (codeCells (c.take pc)).length = pc * 3 := by rw [codeCells_len', List.length_take]; omega
        have hown0 : (W2.alloc (.cells #[] 57)).drew.ownsRow 0 57 3 (.slice (some ⟨W2.heap.size, 0, none⟩) 0 0) 0 [] := World.ownsRow_lit W2 #[] 0 (Nat.zero_le _) (by decide) rfl
        have ta : Tch [] W2 (W2.alloc (.cells #[] 57)).drew := ((Tch.refl [] W2).alloc _).drew
        have hAa := hA.tch ta (by simp)
        have hb1 : 0 + pc ≤ 9223372036854775807 ∧ (0 + pc) * 24 ≤ 140737488355328 := by omega
        obtain ⟨n2, hn2⟩ : ∃ n2, n2 = c.length - (pc + 1) := ⟨_, rfl⟩
        have hcut2 : ∀ W, (Instr.slice 53 (.slice (some ⟨gc, 0, none⟩) c.length cap2) (some (.int .i64 (IntKind.i64.wrap ((pc : Int) + 1)))) none none).run Tryz.prog W = .ok (.slice (cutA (some ⟨gc, 0, none⟩) (pc + 1) 3 cap2) n2 (cap2 - (pc + 1))) W := fun W => by
          rw [hn2, IntWalk.i64_in ((pc : Int) + 1) (by omega)]; exact run_cut_l 53 57 3 Tryz.underlying53 (by kernel_rfl) (by kernel_rfl) (some ⟨gc, 0, none⟩) c.length cap2 (pc + 1) (by omega) W
        have hB := Src.mono (L' := []) (hS.cut_l (n := pc + 1) (sz := 3) (by omega) (codeCells_len' c)) (by simp)
        rw [codeCells_dropN, ← hn2] at hB
        have hlB : (codeCells (c.drop (pc + 1))).length = n2 * 3 := by rw [codeCells_len', List.length_drop, hn2]
        have hb2 : pc + n2 ≤ 9223372036854775807 ∧ (pc + n2) * 24 ≤ 140737488355328 := by omega
        have hln : (c.take pc ++ c.drop (pc + 1)).length = pc + n2 := by rw [List.length_append, List.length_take, List.length_drop, hn2]; omega
        have hle : pc + n2 ≤ 1001 := by omega
        have HLN := Lib.hid hln
        have hz2 := (hcz.take pc).append (hcz.drop (pc + 1))
        have hcc := codeCells_app (c.take pc) (c.drop (pc + 1))
        have HCC := Lib.hid hcc
        clear hn2 hln hcc hS hA
        generalize c.drop (pc + 1) = dB at *
        generalize c.take pc = dA at *
        generalize cutA (some ⟨gc, 0, none⟩) (pc + 1) 3 cap2 = aB at *
        generalize cap2 - (pc + 1) = cB at *
        go_wp2_with fail
        go_region_law (first
          | (refine step_append_any _ rfl (.tmp 58) (.tmp 61) 53 rfl 57 iI (.agg #[.int .i64 0, .int .i64 0, .int .i64 0]) 3 24 Tryz.underlying53 hiI hzI0 hzI1 hzI2 rfl (by decide) (.slice (some ⟨W2.heap.size, 0, none⟩) 0 0) 0 [] rfl hown0 [] (.slice (some ⟨gc, 0, none⟩) pc cap2) pc (codeCells dA) rfl hAa hlA (codeCells_one _) hb1 ?_; intro ao1 cap1 w1 hown1 hgrow1 hat1; simp only [Nat.zero_add, List.nil_append] at hown1 hat1 ⊢; have q1 : Tch [] W2 w1 := ta.grown hgrow1 (fun g h => .inr (by simp [Value.ownBlock] at h; omega)); have hBa := hB.tch q1 (by simp))
          | (refine step_append_any _ rfl (.tmp 62) (.tmp 66) 53 rfl 57 iI (.agg #[.int .i64 0, .int .i64 0, .int .i64 0]) 3 24 Tryz.underlying53 hiI hzI0 hzI1 hzI2 rfl (by decide) (.slice ao1 pc cap1) pc (codeCells dA) rfl hown1 [] (.slice aB n2 cB) n2 (codeCells dB) rfl hBa hlB (codeCells_one _) hb2 ?_; intro ao2 cap2' w2 hown2' hgrow2 hat2))
        all_goals
          have q2 : Tch [] W2 w2 := q1.grown hgrow2 (fun k hk => .inr (by
            rcases hat1 with e | e
            · rw [e] at hk; simp [Value.ownBlock] at hk; omega
            · rw [e] at hk; simp at hk; omega))
          have gB : ∀ k, (Value.slice ao2 (pc + n2) cap2').ownBlock = some k → W2.heap.size ≤ k := fun k hk => by
            rcases hat2 with e | e
            · rw [e] at hk
              rcases hat1 with e | e
              · rw [e] at hk; simp [Value.ownBlock] at hk; omega
              · rw [e] at hk; simp at hk; omega
            · rw [e] at hk; simp at hk; have := q1.size; omega
          rw [← HCC.out] at hown2'
          go_wp2_with fail
          go_meet
          refine ⟨dA ++ dB, ao2, cap2', by rw [HLN.out], ?_, by rw [HLN.out]; exact hle, hz2, t2.then q2⟩
          unfold RCode
          rw [HLN.out]
          exact src_of_owns hown2' _ (fun k hk hx => hfarL k (by have := gB k hk; omega) hx)
      · skip
        have hS := src_of_owns hown2 (g :: w.heap.size :: (w.heap.size + 1) :: L0) (fun k hk hx => by simp [Value.ownBlock] at hk; exact hfarL k (by omega) hx)
        have hcap2 : c.length ≤ cap2 := by
          rcases hS.ex with ⟨h, _⟩ | ⟨ad, q, h, hm, _⟩
          · cases h
          · simp only [Value.slice.injEq] at h
            omega
        have hcut1 := fun W => run_cut_h 53 57 3 Tryz.underlying53 (by kernel_rfl) (by kernel_rfl) (some ⟨gc, 0, none⟩) c.length cap2 pc (by omega) W
        have hA := Src.mono (L' := []) (hS.cut_h (n := pc) (sz := 3) (by omega)) (by simp)
        rw [codeCells_takeN] at hA
        have hlA : (codeCells (c.take pc)).length = pc * 3 := by rw [codeCells_len', List.length_take]; omega
        have hownX : (W2.alloc (.cells #[] 57)).drew.ownsRow 0 57 3 (.slice (some ⟨W2.heap.size, 0, none⟩) 0 0) 0 [] := World.ownsRow_lit W2 #[] 0 (Nat.zero_le _) (by decide) rfl
        have ta : Tch [] W2 (W2.alloc (.cells #[] 57)).drew := ((Tch.refl [] W2).alloc _).drew
        have hAx := hA.tch ta (by simp)
        have hb1 : 0 + pc ≤ 9223372036854775807 ∧ (0 + pc) * 24 ≤ 140737488355328 := by omega
        obtain ⟨n2, hn2⟩ : ∃ n2, n2 = c.length - pc := ⟨_, rfl⟩
        have hcut2 : ∀ W, (Instr.slice 53 (.slice (some ⟨gc, 0, none⟩) c.length cap2) (some (.int .i64 (pc : Int))) none none).run Tryz.prog W = .ok (.slice (cutA (some ⟨gc, 0, none⟩) pc 3 cap2) n2 (cap2 - pc)) W := fun W => by
          rw [hn2]; exact run_cut_l 53 57 3 Tryz.underlying53 (by kernel_rfl) (by kernel_rfl) (some ⟨gc, 0, none⟩) c.length cap2 pc (by omega) W
        have hB := Src.mono (L' := []) (hS.cut_l (n := pc) (sz := 3) (by omega) (codeCells_len' c)) (by simp)
        rw [codeCells_dropN, ← hn2] at hB
        have hlB : (codeCells (c.drop pc)).length = n2 * 3 := by rw [codeCells_len', List.length_drop, hn2]
        have hb2 : pc + 1 ≤ 9223372036854775807 ∧ (pc + 1) * 24 ≤ 140737488355328 := by omega
        have hb3 : pc + 1 + n2 ≤ 9223372036854775807 ∧ (pc + 1 + n2) * 24 ≤ 140737488355328 := by omega
        have hln : (c.take pc ++ [x] ++ c.drop pc).length = pc + 1 + n2 := by rw [List.length_append, List.length_append, List.length_take, List.length_drop, List.length_singleton, hn2]; omega
        have hle : pc + 1 + n2 ≤ 1001 := by omega
        have HLN := Lib.hid hln
        have hz2 := ((hcz.take pc).append (CodZ.one hx)).append (hcz.drop pc)
        have HC1 := Lib.hid (codeCells_app (c.take pc) [x])
        have HC2 := Lib.hid (codeCells_app (c.take pc ++ [x]) (c.drop pc))
        clear hn2 hln hS hownX hAx ta
        generalize c.drop pc = dB at *
        generalize c.take pc = dA at *
        generalize cutA (some ⟨gc, 0, none⟩) pc 3 cap2 = aB at *
        generalize cap2 - pc = cB at *
        go_upto_region 15 with fail
        refine wp_region_held_drew (S := fun w' => w'.cell? ⟨gc, pc * 3, none⟩ = some (.int .i64 x.op) ∧ w'.cell? ⟨gc, pc * 3 + 1, none⟩ = some (.int .i64 x.a) ∧ w'.cell? ⟨gc, pc * 3 + 2, none⟩ = some (.int .i64 x.b)) (by kernel_rfl) ⟨o0, o1, o2⟩ (fun hHeld => ?_)
        have rD : Tch [] W2 W2.drew := (Tch.refl [] W2).drew
        obtain ⟨z0, hz0⟩ : ∃ z, z = W2.drew := ⟨_, rfl⟩
        rw [← hz0] at rD hHeld ⊢
        clear hz0
        refine wpAnyH_take (i := 1) (v := ?_) rfl (by kernel_rfl) (by kernel_rfl) (by kernel_rfl) (fun _ _ _ h => h) (Or.inl ⟨by rfl, ?_⟩) (by assumption) ?_
        rotate_left
        · (intro w hSw; (try dsimp only at hSw); go_simp; try with_reducible rfl)
        try simp only [Act.put, List.setIfInBounds_toArray, List.set_cons_zero, List.set_cons_succ]
        refine wpAnyH_take (i := 2) (v := ?_) rfl (by kernel_rfl) (by kernel_rfl) (by kernel_rfl) (fun _ _ _ h => h) (Or.inl ⟨by rfl, ?_⟩) (by assumption) ?_
        rotate_left
        · (intro w hSw; (try dsimp only at hSw); go_simp; try with_reducible rfl)
        try simp only [Act.put, List.setIfInBounds_toArray, List.set_cons_zero, List.set_cons_succ]
        refine wpAnyH_take (i := 3) (v := ?_) rfl (by kernel_rfl) (by kernel_rfl) (by kernel_rfl) (fun _ _ _ h => h) (Or.inl ⟨by rfl, ?_⟩) (by assumption) ?_
        rotate_left
        · (intro w hSw; (try dsimp only at hSw); go_simp; try with_reducible rfl)
        try simp only [Act.put, List.setIfInBounds_toArray, List.set_cons_zero, List.set_cons_succ]
        refine wpAnyH_take (i := 5) (v := ?_) rfl (by kernel_rfl) (by kernel_rfl) (by kernel_rfl) (fun _ _ _ h => h) (Or.inl ⟨by rfl, ?_⟩) (by assumption) ?_
        rotate_left
        · (intro w hSw; (try dsimp only at hSw); go_simp; try with_reducible rfl)
        try simp only [Act.put, List.setIfInBounds_toArray, List.set_cons_zero, List.set_cons_succ]
        refine wpAnyH_take (i := 6) (v := ?_) rfl (by kernel_rfl) (by kernel_rfl) (by kernel_rfl) (fun _ _ _ h => h) (Or.inl ⟨by rfl, ?_⟩) (by assumption) ?_
        rotate_left
        · (intro w hSw; (try dsimp only at hSw); go_simp; try with_reducible rfl)
        try simp only [Act.put, List.setIfInBounds_toArray, List.set_cons_zero, List.set_cons_succ]
        refine wpAnyH_take (i := 7) (v := ?_) rfl (by kernel_rfl) (by kernel_rfl) (by kernel_rfl) (fun _ _ _ h => h) (Or.inl ⟨by rfl, ?_⟩) (by assumption) ?_
        rotate_left
        · (intro w hSw; (try dsimp only at hSw); go_simp; try with_reducible rfl)
        try simp only [Act.put, List.setIfInBounds_toArray, List.set_cons_zero, List.set_cons_succ]
        refine wpAnyH_take (i := 8) (v := ?_) rfl (by kernel_rfl) (by kernel_rfl) (by kernel_rfl) (fun _ _ _ h => h) (Or.inl ⟨by rfl, ?_⟩) (by assumption) ?_
        rotate_left
        · (intro w hSw; (try dsimp only at hSw); go_simp; try with_reducible rfl)
        try simp only [Act.put, List.setIfInBounds_toArray, List.set_cons_zero, List.set_cons_succ]
        refine wpAnyH_take (i := 11) (v := ?_) rfl (by kernel_rfl) (by kernel_rfl) (by kernel_rfl) (fun _ _ _ h => h) (Or.inl ⟨by rfl, ?_⟩) (by assumption) ?_
        rotate_left
        · (intro w hSw; (try dsimp only at hSw); go_simp; try with_reducible rfl)
        try simp only [Act.put, List.setIfInBounds_toArray, List.set_cons_zero, List.set_cons_succ]
        refine wpAnyH_take (i := 12) (v := ?_) rfl (by kernel_rfl) (by kernel_rfl) (by kernel_rfl) (fun _ _ _ h => h) (Or.inl ⟨by rfl, ?_⟩) (by assumption) ?_
        rotate_left
        · (intro w hSw; (try dsimp only at hSw); go_simp; try with_reducible rfl)
        try simp only [Act.put, List.setIfInBounds_toArray, List.set_cons_zero, List.set_cons_succ]
        refine wpAnyH_take (i := 13) (v := ?_) rfl (by kernel_rfl) (by kernel_rfl) (by kernel_rfl) (fun _ _ _ h => h) (Or.inl ⟨by rfl, ?_⟩) (by assumption) ?_
        rotate_left
        · (intro w hSw; (try dsimp only at hSw); go_simp; try with_reducible rfl)
        try simp only [Act.put, List.setIfInBounds_toArray, List.set_cons_zero, List.set_cons_succ]
        refine wpAnyH_ready (rs := [0, 9]) (by kernel_rfl) (by simp) ?_
        refine AllReadyH.cons rfl (fun K hK => ?_) (AllReadyH.cons rfl (fun K hK => ?_) AllReadyH.nil)
        · go_simp
          obtain ⟨z1, hy⟩ : ∃ y, y = z0.alloc (.cells #[] 57) := ⟨_, rfl⟩
          rw [← hy]
          have tz : Tch [] z0 z1 := by rw [hy]; exact (Tch.refl [] z0).alloc _
          have r1 : Tch [] W2 z1 := Tch.then rD tz
          have oE : z1.ownsRow 0 57 3 (.slice (some ⟨z0.heap.size, 0, none⟩) 0 0) 0 [] := by rw [hy]; exact World.ownsRow_lit z0 #[] 0 (Nat.zero_le _) (by decide) rfl
          have bE : W2.heap.size ≤ z0.heap.size := rD.size
          clear hy
          refine hK.out _ _ (⟨(r1.cell (cell_lt o0) (by simp)).trans o0, (r1.cell (cell_lt o1) (by simp)).trans o1, (r1.cell (cell_lt o2) (by simp)).trans o2⟩) (fun hHeld => ?_)
          clear hK K
          try simp only [Act.put, List.setIfInBounds_toArray, List.set_cons_zero, List.set_cons_succ]
          refine wpAnyH_ready (rs := [4, 9]) (by kernel_rfl) (by simp) ?_
          refine AllReadyH.cons rfl (fun K hK => ?_) (AllReadyH.cons rfl (fun K hK => ?_) AllReadyH.nil)
          · have hA2 := hA.tch r1 (by simp)
            refine step_append_any _ rfl (.tmp 70) (.tmp 73) 53 rfl 57 iI (.agg #[.int .i64 0, .int .i64 0, .int .i64 0]) 3 24 Tryz.underlying53 hiI hzI0 hzI1 hzI2 rfl (by decide) (.slice (some ⟨z0.heap.size, 0, none⟩) 0 0) 0 [] rfl oE [] (.slice (some ⟨gc, 0, none⟩) pc cap2) pc (codeCells dA) rfl hA2 hlA (codeCells_one _) hb1 ?_
            intro ao1 cap1 z2 oA2 hgr2 hat2
            change K (Act.put _ (some 74) _) _
            simp only [Nat.zero_add, List.nil_append] at oA2 hat2 ⊢
            have r2 : Tch [] W2 z2 := Tch.grown r1 hgr2 (fun k hk => .inr (by simp [Value.ownBlock] at hk; have := bE; omega))
            have gA : ∀ k, (Value.slice ao1 pc cap1).ownBlock = some k → W2.heap.size ≤ k := fun k hk => by
              rcases hat2 with e | e
              · rw [e] at hk; simp [Value.ownBlock] at hk; have := bE; omega
              · rw [e] at hk; simp at hk; have := Tch.size r1; omega
            refine hK.out _ _ (⟨(r2.cell (cell_lt o0) (by simp)).trans o0, (r2.cell (cell_lt o1) (by simp)).trans o1, (r2.cell (cell_lt o2) (by simp)).trans o2⟩) (fun hHeld => ?_)
            clear hK K
            try simp only [Act.put, List.setIfInBounds_toArray, List.set_cons_zero, List.set_cons_succ]
            refine wpAnyH_ready (rs := [9]) (by kernel_rfl) (by simp) ?_
            refine AllReadyH.cons rfl (fun K hK => ?_) AllReadyH.nil
            go_simp
            obtain ⟨z3, hy⟩ : ∃ y, y = z2.alloc (.cells #[.int .i64 x.op, .int .i64 x.a, .int .i64 x.b] 57) := ⟨_, rfl⟩
            rw [← hy]
            have tz : Tch [] z2 z3 := by rw [hy]; exact (Tch.refl [] z2).alloc _
            have r3 : Tch [] W2 z3 := Tch.then r2 tz
            have sN3 : Src z3 [] (.slice (some ⟨z2.heap.size, 0, none⟩) 1 1) 1 (codeCells [x]) := src_new z2 z3 [] #[.int .i64 x.op, .int .i64 x.a, .int .i64 x.b] 57 1 1 (by rw [hy]; exact Tch.refl _ _) (by simp)
            have oA3 := ownsRow_tch oA2 tz (by simp)
            clear hy
            refine hK.out _ _ (⟨(r3.cell (cell_lt o0) (by simp)).trans o0, (r3.cell (cell_lt o1) (by simp)).trans o1, (r3.cell (cell_lt o2) (by simp)).trans o2⟩) (fun hHeld => ?_)
            clear hK K
            try simp only [Act.put, List.setIfInBounds_toArray, List.set_cons_zero, List.set_cons_succ]
            refine wpAnyH_ready (rs := [10]) (by kernel_rfl) (by simp) ?_
            refine AllReadyH.cons rfl (fun K hK => ?_) AllReadyH.nil
            refine step_append_any _ rfl (.tmp 74) (.tmp 79) 53 rfl 57 iI (.agg #[.int .i64 0, .int .i64 0, .int .i64 0]) 3 24 Tryz.underlying53 hiI hzI0 hzI1 hzI2 rfl (by decide) (.slice ao1 pc cap1) pc (codeCells dA) rfl oA3 [] (.slice (some ⟨z2.heap.size, 0, none⟩) 1 1) 1 (codeCells [x]) rfl sN3 rfl (codeCells_one _) hb2 ?_
            intro ao2 cap2' z4 oB hgr4 hat4
            change K (Act.put _ (some 80) _) _
            have r4 : Tch [] W2 z4 := Tch.grown r3 hgr4 (fun k hk => .inr (gA k hk))
            have gB : ∀ k, (Value.slice ao2 (pc + 1) cap2').ownBlock = some k → W2.heap.size ≤ k := fun k hk => by
              rcases hat4 with e | e
              · rw [e] at hk; exact gA k hk
              · rw [e] at hk; simp at hk; have := Tch.size r3; omega
            refine hK.out _ _ (⟨(r4.cell (cell_lt o0) (by simp)).trans o0, (r4.cell (cell_lt o1) (by simp)).trans o1, (r4.cell (cell_lt o2) (by simp)).trans o2⟩) (fun hHeld => ?_)
            clear hK K
            try simp only [Act.put, List.setIfInBounds_toArray, List.set_cons_zero, List.set_cons_succ]
            refine wpAnyH_ready (rs := [14]) (by kernel_rfl) (by simp) ?_
            refine AllReadyH.cons rfl (fun K hK => ?_) AllReadyH.nil
            have hB5 := hB.tch r4 (by simp)
            refine step_append_any _ rfl (.tmp 80) (.tmp 83) 53 rfl 57 iI (.agg #[.int .i64 0, .int .i64 0, .int .i64 0]) 3 24 Tryz.underlying53 hiI hzI0 hzI1 hzI2 rfl (by decide) (.slice ao2 (pc + 1) cap2') (pc + 1) (codeCells dA ++ codeCells [x]) rfl oB [] (.slice aB n2 cB) n2 (codeCells dB) rfl hB5 hlB (codeCells_one _) hb3 ?_
            intro ao3 cap3 z5 oC hgr5 hat5
            change K (Act.put _ (some 84) _) _
            have r5 : Tch [] W2 z5 := Tch.grown r4 hgr5 (fun k hk => .inr (gB k hk))
            have gC : ∀ k, (Value.slice ao3 (pc + 1 + n2) cap3).ownBlock = some k → W2.heap.size ≤ k := fun k hk => by
              rcases hat5 with e | e
              · rw [e] at hk; exact gB k hk
              · rw [e] at hk; simp at hk; have := Tch.size r4; omega
            refine hK.out _ _ (⟨(r5.cell (cell_lt o0) (by simp)).trans o0, (r5.cell (cell_lt o1) (by simp)).trans o1, (r5.cell (cell_lt o2) (by simp)).trans o2⟩) (fun hHeld => ?_)
            clear hK K
            try simp only [Act.put, List.setIfInBounds_toArray, List.set_cons_zero, List.set_cons_succ]
            refine wpAnyH_take (i := 15) (v := ?_) rfl (by kernel_rfl) (by kernel_rfl) (by kernel_rfl) (fun _ _ _ h => h) (Or.inl ⟨by rfl, ?_⟩) (by assumption) ?_
            rotate_left
            · (intro w hSw; (try dsimp only at hSw); go_simp; try with_reducible rfl)
            try simp only [Act.put, List.getElem_toArray, List.getElem_cons_succ, List.getElem_cons_zero, List.setIfInBounds_toArray, List.set_cons_zero, List.set_cons_succ]
            refine wpAnyH_done (by kernel_rfl) ?_ _
            go_wp2_with fail
            go_meet
            refine ⟨dA ++ [x] ++ dB, ao3, cap3, by rw [HLN.out], ?_, by rw [HLN.out]; exact hle, hz2, t2.then r5⟩
            rw [← HC1.out, ← HC2.out] at oC
            unfold RCode
            rw [HLN.out]
            exact src_of_owns oC _ (fun k hk hx => hfarL k (by have := gC k hk; omega) hx)
          · go_simp
            obtain ⟨z2, hy⟩ : ∃ y, y = z1.alloc (.cells #[.int .i64 x.op, .int .i64 x.a, .int .i64 x.b] 57) := ⟨_, rfl⟩
            rw [← hy]
            have tz : Tch [] z1 z2 := by rw [hy]; exact (Tch.refl [] z1).alloc _
            have r2 : Tch [] W2 z2 := Tch.then r1 tz
            have lE : z0.heap.size < z1.heap.size := (World.ownsRow.lt oE _ rfl).2
            have sN2 : Src z2 [z0.heap.size] (.slice (some ⟨z1.heap.size, 0, none⟩) 1 1) 1 (codeCells [x]) := src_new z1 z2 [z0.heap.size] #[.int .i64 x.op, .int .i64 x.a, .int .i64 x.b] 57 1 1 (by rw [hy]; exact Tch.refl _ _) (by intro hm; rw [List.mem_singleton] at hm; omega)
            have oE2 := ownsRow_tch oE tz (by simp)
            clear hy
            refine hK.out _ _ (⟨(r2.cell (cell_lt o0) (by simp)).trans o0, (r2.cell (cell_lt o1) (by simp)).trans o1, (r2.cell (cell_lt o2) (by simp)).trans o2⟩) (fun hHeld => ?_)
            clear hK K
            try simp only [Act.put, List.setIfInBounds_toArray, List.set_cons_zero, List.set_cons_succ]
            refine wpAnyH_ready (rs := [4]) (by kernel_rfl) (by simp) ?_
            refine AllReadyH.cons rfl (fun K hK => ?_) AllReadyH.nil
            have hA3 := hA.tch r2 (by simp)
            refine step_append_any _ rfl (.tmp 70) (.tmp 73) 53 rfl 57 iI (.agg #[.int .i64 0, .int .i64 0, .int .i64 0]) 3 24 Tryz.underlying53 hiI hzI0 hzI1 hzI2 rfl (by decide) (.slice (some ⟨z0.heap.size, 0, none⟩) 0 0) 0 [] rfl oE2 [] (.slice (some ⟨gc, 0, none⟩) pc cap2) pc (codeCells dA) rfl hA3 hlA (codeCells_one _) hb1 ?_
            intro ao1 cap1 z3 oA3 hgr3 hat3
            change K (Act.put _ (some 74) _) _
            simp only [Nat.zero_add, List.nil_append] at oA3 hat3 ⊢
            have r3 : Tch [] W2 z3 := Tch.grown r2 hgr3 (fun k hk => .inr (by simp [Value.ownBlock] at hk; have := bE; omega))
            have gA : ∀ k, (Value.slice ao1 pc cap1).ownBlock = some k → W2.heap.size ≤ k := fun k hk => by
              rcases hat3 with e | e
              · rw [e] at hk; simp [Value.ownBlock] at hk; have := bE; omega
              · rw [e] at hk; simp at hk; have := Tch.size r2; omega
            have sN3 := Src.mono (L' := []) (Src.tch sN2 (L' := [z0.heap.size]) ((Tch.refl [z0.heap.size] z2).grown hgr3 (fun k hk => .inl (by simp [Value.ownBlock] at hk; simp [hk]))) (fun i hi _ => hi)) (by simp)
            refine hK.out _ _ (⟨(r3.cell (cell_lt o0) (by simp)).trans o0, (r3.cell (cell_lt o1) (by simp)).trans o1, (r3.cell (cell_lt o2) (by simp)).trans o2⟩) (fun hHeld => ?_)
            clear hK K
            try simp only [Act.put, List.setIfInBounds_toArray, List.set_cons_zero, List.set_cons_succ]
            refine wpAnyH_ready (rs := [10]) (by kernel_rfl) (by simp) ?_
            refine AllReadyH.cons rfl (fun K hK => ?_) AllReadyH.nil
            refine step_append_any _ rfl (.tmp 74) (.tmp 79) 53 rfl 57 iI (.agg #[.int .i64 0, .int .i64 0, .int .i64 0]) 3 24 Tryz.underlying53 hiI hzI0 hzI1 hzI2 rfl (by decide) (.slice ao1 pc cap1) pc (codeCells dA) rfl oA3 [] (.slice (some ⟨z1.heap.size, 0, none⟩) 1 1) 1 (codeCells [x]) rfl sN3 rfl (codeCells_one _) hb2 ?_
            intro ao2 cap2' z4 oB hgr4 hat4
            change K (Act.put _ (some 80) _) _
            have r4 : Tch [] W2 z4 := Tch.grown r3 hgr4 (fun k hk => .inr (gA k hk))
            have gB : ∀ k, (Value.slice ao2 (pc + 1) cap2').ownBlock = some k → W2.heap.size ≤ k := fun k hk => by
              rcases hat4 with e | e
              · rw [e] at hk; exact gA k hk
              · rw [e] at hk; simp at hk; have := Tch.size r3; omega
            refine hK.out _ _ (⟨(r4.cell (cell_lt o0) (by simp)).trans o0, (r4.cell (cell_lt o1) (by simp)).trans o1, (r4.cell (cell_lt o2) (by simp)).trans o2⟩) (fun hHeld => ?_)
            clear hK K
            try simp only [Act.put, List.setIfInBounds_toArray, List.set_cons_zero, List.set_cons_succ]
            refine wpAnyH_ready (rs := [14]) (by kernel_rfl) (by simp) ?_
            refine AllReadyH.cons rfl (fun K hK => ?_) AllReadyH.nil
            have hB5 := hB.tch r4 (by simp)
            refine step_append_any _ rfl (.tmp 80) (.tmp 83) 53 rfl 57 iI (.agg #[.int .i64 0, .int .i64 0, .int .i64 0]) 3 24 Tryz.underlying53 hiI hzI0 hzI1 hzI2 rfl (by decide) (.slice ao2 (pc + 1) cap2') (pc + 1) (codeCells dA ++ codeCells [x]) rfl oB [] (.slice aB n2 cB) n2 (codeCells dB) rfl hB5 hlB (codeCells_one _) hb3 ?_
            intro ao3 cap3 z5 oC hgr5 hat5
            change K (Act.put _ (some 84) _) _
            have r5 : Tch [] W2 z5 := Tch.grown r4 hgr5 (fun k hk => .inr (gB k hk))
            have gC : ∀ k, (Value.slice ao3 (pc + 1 + n2) cap3).ownBlock = some k → W2.heap.size ≤ k := fun k hk => by
              rcases hat5 with e | e
              · rw [e] at hk; exact gB k hk
              · rw [e] at hk; simp at hk; have := Tch.size r4; omega
            refine hK.out _ _ (⟨(r5.cell (cell_lt o0) (by simp)).trans o0, (r5.cell (cell_lt o1) (by simp)).trans o1, (r5.cell (cell_lt o2) (by simp)).trans o2⟩) (fun hHeld => ?_)
            clear hK K
            try simp only [Act.put, List.setIfInBounds_toArray, List.set_cons_zero, List.set_cons_succ]
            refine wpAnyH_take (i := 15) (v := ?_) rfl (by kernel_rfl) (by kernel_rfl) (by kernel_rfl) (fun _ _ _ h => h) (Or.inl ⟨by rfl, ?_⟩) (by assumption) ?_
            rotate_left
            · (intro w hSw; (try dsimp only at hSw); go_simp; try with_reducible rfl)
            try simp only [Act.put, List.getElem_toArray, List.getElem_cons_succ, List.getElem_cons_zero, List.setIfInBounds_toArray, List.set_cons_zero, List.set_cons_succ]
            refine wpAnyH_done (by kernel_rfl) ?_ _
            go_wp2_with fail
            go_meet
            refine ⟨dA ++ [x] ++ dB, ao3, cap3, by rw [HLN.out], ?_, by rw [HLN.out]; exact hle, hz2, t2.then r5⟩
            rw [← HC1.out, ← HC2.out] at oC
            unfold RCode
            rw [HLN.out]
            exact src_of_owns oC _ (fun k hk hx => hfarL k (by have := gC k hk; omega) hx)
        · go_simp
          obtain ⟨z1, hy⟩ : ∃ y, y = z0.alloc (.cells #[.int .i64 x.op, .int .i64 x.a, .int .i64 x.b] 57) := ⟨_, rfl⟩
          rw [← hy]
          have tz : Tch [] z0 z1 := by rw [hy]; exact (Tch.refl [] z0).alloc _
          have r1 : Tch [] W2 z1 := Tch.then rD tz
          have sN1 : Src z1 [] (.slice (some ⟨z0.heap.size, 0, none⟩) 1 1) 1 (codeCells [x]) := src_new z0 z1 [] #[.int .i64 x.op, .int .i64 x.a, .int .i64 x.b] 57 1 1 (by rw [hy]; exact Tch.refl _ _) (by simp)
          clear hy
          refine hK.out _ _ (⟨(r1.cell (cell_lt o0) (by simp)).trans o0, (r1.cell (cell_lt o1) (by simp)).trans o1, (r1.cell (cell_lt o2) (by simp)).trans o2⟩) (fun hHeld => ?_)
          clear hK K
          try simp only [Act.put, List.setIfInBounds_toArray, List.set_cons_zero, List.set_cons_succ]
          refine wpAnyH_ready (rs := [0]) (by kernel_rfl) (by simp) ?_
          refine AllReadyH.cons rfl (fun K hK => ?_) AllReadyH.nil
          go_simp
          obtain ⟨z2, hy⟩ : ∃ y, y = z1.alloc (.cells #[] 57) := ⟨_, rfl⟩
          rw [← hy]
          have tz : Tch [] z1 z2 := by rw [hy]; exact (Tch.refl [] z1).alloc _
          have r2 : Tch [] W2 z2 := Tch.then r1 tz
          have oE : z2.ownsRow 0 57 3 (.slice (some ⟨z1.heap.size, 0, none⟩) 0 0) 0 [] := by rw [hy]; exact World.ownsRow_lit z1 #[] 0 (Nat.zero_le _) (by decide) rfl
          have bE : W2.heap.size ≤ z1.heap.size := r1.size
          have sN2 := (Src.mono (L' := [z1.heap.size]) sN1 (fun i hi hlt => by simp at hi; omega)).tch tz (by simp)
          clear hy
          refine hK.out _ _ (⟨(r2.cell (cell_lt o0) (by simp)).trans o0, (r2.cell (cell_lt o1) (by simp)).trans o1, (r2.cell (cell_lt o2) (by simp)).trans o2⟩) (fun hHeld => ?_)
          clear hK K
          try simp only [Act.put, List.setIfInBounds_toArray, List.set_cons_zero, List.set_cons_succ]
          refine wpAnyH_ready (rs := [4]) (by kernel_rfl) (by simp) ?_
          refine AllReadyH.cons rfl (fun K hK => ?_) AllReadyH.nil
          have hA3 := hA.tch r2 (by simp)
          refine step_append_any _ rfl (.tmp 70) (.tmp 73) 53 rfl 57 iI (.agg #[.int .i64 0, .int .i64 0, .int .i64 0]) 3 24 Tryz.underlying53 hiI hzI0 hzI1 hzI2 rfl (by decide) (.slice (some ⟨z1.heap.size, 0, none⟩) 0 0) 0 [] rfl oE [] (.slice (some ⟨gc, 0, none⟩) pc cap2) pc (codeCells dA) rfl hA3 hlA (codeCells_one _) hb1 ?_
          intro ao1 cap1 z3 oA3 hgr3 hat3
          change K (Act.put _ (some 74) _) _
          simp only [Nat.zero_add, List.nil_append] at oA3 hat3 ⊢
          have r3 : Tch [] W2 z3 := Tch.grown r2 hgr3 (fun k hk => .inr (by simp [Value.ownBlock] at hk; have := bE; omega))
          have gA : ∀ k, (Value.slice ao1 pc cap1).ownBlock = some k → W2.heap.size ≤ k := fun k hk => by
            rcases hat3 with e | e
            · rw [e] at hk; simp [Value.ownBlock] at hk; have := bE; omega
            · rw [e] at hk; simp at hk; have := Tch.size r2; omega
          have sN3 := Src.mono (L' := []) (Src.tch sN2 (L' := [z1.heap.size]) ((Tch.refl [z1.heap.size] z2).grown hgr3 (fun k hk => .inl (by simp [Value.ownBlock] at hk; simp [hk]))) (fun i hi _ => hi)) (by simp)
          refine hK.out _ _ (⟨(r3.cell (cell_lt o0) (by simp)).trans o0, (r3.cell (cell_lt o1) (by simp)).trans o1, (r3.cell (cell_lt o2) (by simp)).trans o2⟩) (fun hHeld => ?_)
          clear hK K
          try simp only [Act.put, List.setIfInBounds_toArray, List.set_cons_zero, List.set_cons_succ]
          refine wpAnyH_ready (rs := [10]) (by kernel_rfl) (by simp) ?_
          refine AllReadyH.cons rfl (fun K hK => ?_) AllReadyH.nil
          refine step_append_any _ rfl (.tmp 74) (.tmp 79) 53 rfl 57 iI (.agg #[.int .i64 0, .int .i64 0, .int .i64 0]) 3 24 Tryz.underlying53 hiI hzI0 hzI1 hzI2 rfl (by decide) (.slice ao1 pc cap1) pc (codeCells dA) rfl oA3 [] (.slice (some ⟨z0.heap.size, 0, none⟩) 1 1) 1 (codeCells [x]) rfl sN3 rfl (codeCells_one _) hb2 ?_
          intro ao2 cap2' z4 oB hgr4 hat4
          change K (Act.put _ (some 80) _) _
          have r4 : Tch [] W2 z4 := Tch.grown r3 hgr4 (fun k hk => .inr (gA k hk))
          have gB : ∀ k, (Value.slice ao2 (pc + 1) cap2').ownBlock = some k → W2.heap.size ≤ k := fun k hk => by
            rcases hat4 with e | e
            · rw [e] at hk; exact gA k hk
            · rw [e] at hk; simp at hk; have := Tch.size r3; omega
          refine hK.out _ _ (⟨(r4.cell (cell_lt o0) (by simp)).trans o0, (r4.cell (cell_lt o1) (by simp)).trans o1, (r4.cell (cell_lt o2) (by simp)).trans o2⟩) (fun hHeld => ?_)
          clear hK K
          try simp only [Act.put, List.setIfInBounds_toArray, List.set_cons_zero, List.set_cons_succ]
          refine wpAnyH_ready (rs := [14]) (by kernel_rfl) (by simp) ?_
          refine AllReadyH.cons rfl (fun K hK => ?_) AllReadyH.nil
          have hB5 := hB.tch r4 (by simp)
          refine step_append_any _ rfl (.tmp 80) (.tmp 83) 53 rfl 57 iI (.agg #[.int .i64 0, .int .i64 0, .int .i64 0]) 3 24 Tryz.underlying53 hiI hzI0 hzI1 hzI2 rfl (by decide) (.slice ao2 (pc + 1) cap2') (pc + 1) (codeCells dA ++ codeCells [x]) rfl oB [] (.slice aB n2 cB) n2 (codeCells dB) rfl hB5 hlB (codeCells_one _) hb3 ?_
          intro ao3 cap3 z5 oC hgr5 hat5
          change K (Act.put _ (some 84) _) _
          have r5 : Tch [] W2 z5 := Tch.grown r4 hgr5 (fun k hk => .inr (gB k hk))
          have gC : ∀ k, (Value.slice ao3 (pc + 1 + n2) cap3).ownBlock = some k → W2.heap.size ≤ k := fun k hk => by
            rcases hat5 with e | e
            · rw [e] at hk; exact gB k hk
            · rw [e] at hk; simp at hk; have := Tch.size r4; omega
          refine hK.out _ _ (⟨(r5.cell (cell_lt o0) (by simp)).trans o0, (r5.cell (cell_lt o1) (by simp)).trans o1, (r5.cell (cell_lt o2) (by simp)).trans o2⟩) (fun hHeld => ?_)
          clear hK K
          try simp only [Act.put, List.setIfInBounds_toArray, List.set_cons_zero, List.set_cons_succ]
          refine wpAnyH_take (i := 15) (v := ?_) rfl (by kernel_rfl) (by kernel_rfl) (by kernel_rfl) (fun _ _ _ h => h) (Or.inl ⟨by rfl, ?_⟩) (by assumption) ?_
          rotate_left
          · (intro w hSw; (try dsimp only at hSw); go_simp; try with_reducible rfl)
          try simp only [Act.put, List.getElem_toArray, List.getElem_cons_succ, List.getElem_cons_zero, List.setIfInBounds_toArray, List.set_cons_zero, List.set_cons_succ]
          refine wpAnyH_done (by kernel_rfl) ?_ _
          go_wp2_with fail
          go_meet
          refine ⟨dA ++ [x] ++ dB, ao3, cap3, by rw [HLN.out], ?_, by rw [HLN.out]; exact hle, hz2, t2.then r5⟩
          rw [← HC1.out, ← HC2.out] at oC
          unfold RCode
          rw [HLN.out]
          exact src_of_owns oC _ (fun k hk hx => hfarL k (by have := gC k hk; omega) hx)
      · go_wp2_with fail
        go_meet
        refine ⟨c.set pc ⟨35, 2, 0⟩, some ⟨gc, 0, none⟩, cap2, by simp, ?_, by simp; omega, hcz.set pc (insZ_mk (i6s (by omega) (by omega)) (i6s (by omega) (by omega)) (i6s (by omega) (by omega))), (((t2.setCell (.inr hgc) _).setCell (.inr hgc) _).setCell (.inr hgc) _)⟩
        have h := (((hown2.stored (pc * 3) (.int .i64 35)).1.stored (pc * 3 + 1) (.int .i64 2)).1.stored (pc * 3 + 2) (.int .i64 0)).1
        rw [codeCells_set3 c pc hpcn] at h
        exact hRC _ _ _ _ (by simpa using h) hgc
      · have hPb := hand_Pick by0 (c.length : Int) hby (by omega) (by omega) W2
        obtain ⟨b, hb, hb0, hbm⟩ : ∃ b : Int, b = by0 % (c.length : Int) ∧ 0 ≤ b ∧ b < (c.length : Int) := ⟨_, rfl, Int.emod_nonneg _ (by omega), Int.emod_lt_of_pos _ (by omega)⟩
        rw [← hb] at hPb
        clear hb
        go_wp2_with fail
        refine hPb.mono ?_
        rintro e w' ⟨rfl, rfl⟩
        go_wp2_with fail
        go_meet
        refine ⟨c.set pc ⟨23, b, 0⟩, some ⟨gc, 0, none⟩, cap2, by simp, ?_, by simp; omega, hcz.set pc (insZ_mk (i6s (by omega) (by omega)) (i6s (by omega) (by omega)) (i6s (by omega) (by omega))), (((t2.setCell (.inr hgc) _).setCell (.inr hgc) _).setCell (.inr hgc) _)⟩
        have h := (((hown2.stored (pc * 3) (.int .i64 23)).1.stored (pc * 3 + 1) (.int .i64 b)).1.stored (pc * 3 + 2) (.int .i64 0)).1
        rw [codeCells_set3 c pc hpcn] at h
        exact hRC _ _ _ _ (by simpa using h) hgc
      · go_wp2_with fail
        go_meet
        refine ⟨c.set pc ⟨4, 0, 0⟩, some ⟨gc, 0, none⟩, cap2, by simp, ?_, by simp; omega, hcz.set pc (insZ_mk (i6s (by omega) (by omega)) (i6s (by omega) (by omega)) (i6s (by omega) (by omega))), (((t2.setCell (.inr hgc) _).setCell (.inr hgc) _).setCell (.inr hgc) _)⟩
        have h := (((hown2.stored (pc * 3) (.int .i64 4)).1.stored (pc * 3 + 1) (.int .i64 0)).1.stored (pc * 3 + 2) (.int .i64 0)).1
        rw [codeCells_set3 c pc hpcn] at h
        exact hRC _ _ _ _ (by simpa using h) hgc
      · have hS := src_of_owns hown2 (g :: w.heap.size :: (w.heap.size + 1) :: L0) (fun k hk hx => by simp [Value.ownBlock] at hk; exact hfarL k (by omega) hx)
        have hcap2 : c.length ≤ cap2 := by
          rcases hS.ex with ⟨h, _⟩ | ⟨ad, q, h, hm, _⟩
          · cases h
          · simp only [Value.slice.injEq] at h
            omega
        have hcut := fun W => run_cut_h 53 57 3 Tryz.underlying53 (by kernel_rfl) (by kernel_rfl) (some ⟨gc, 0, none⟩) c.length cap2 pc (by omega) W
        have hSt := hS.cut_h (n := pc) (sz := 3) (by omega)
        rw [codeCells_takeN] at hSt
        have htl : (c.take pc).length = pc := by rw [List.length_take]; omega
        go_wp2_with fail
        go_meet
        have hfin : RCode W2 (g :: w.heap.size :: (w.heap.size + 1) :: L0) (.slice (some ⟨gc, 0, none⟩) (c.take pc).length cap2) (c.take pc) := by
          unfold RCode; rw [htl]; exact hSt
        exact ⟨c.take pc, some ⟨gc, 0, none⟩, cap2, by rw [htl], hfin, by omega, hcz.take pc, t2⟩
      · have hPb := hand_Pick by0 5 hby (by omega) (by omega) W2
        obtain ⟨b, hb, hb0, hbm⟩ : ∃ b : Int, b = by0 % 5 ∧ 0 ≤ b ∧ b < 5 := ⟨_, rfl, Int.emod_nonneg _ (by omega), Int.emod_lt_of_pos _ (by omega)⟩
        rw [← hb] at hPb
        clear hb
        go_wp2_with fail
        refine hPb.mono ?_
        rintro e w' ⟨rfl, rfl⟩
        go_wp2_with fail
        go_meet
        refine ⟨c.set pc ⟨33, b, 0⟩, some ⟨gc, 0, none⟩, cap2, by simp, ?_, by simp; omega, hcz.set pc (insZ_mk (i6s (by omega) (by omega)) (i6s (by omega) (by omega)) (i6s (by omega) (by omega))), (((t2.setCell (.inr hgc) _).setCell (.inr hgc) _).setCell (.inr hgc) _)⟩
        have h := (((hown2.stored (pc * 3) (.int .i64 33)).1.stored (pc * 3 + 1) (.int .i64 b)).1.stored (pc * 3 + 2) (.int .i64 0)).1
        rw [codeCells_set3 c pc hpcn] at h
        exact hRC _ _ _ _ (by simpa using h) hgc
      · go_wp2_with fail
        go_meet
        exact ⟨c, some ⟨gc, 0, none⟩, cap2, by simp, hRC _ _ _ _ hown2 hgc, by omega, hcz, t2⟩
    case rest =>
      obtain ⟨c', ao', cap', rfl, hrc, hl', hz', T5⟩ := hcut
      have hMW := hPut wc T5 _ c' hrc
      have hq0 : wc.frozen? ⟨g, k * 4 + 3, none⟩ = false := (hMt wc T5).frozen _
      obtain ⟨_, _, vck, _, _, hvk, _, _, _, hq1⟩ := (hMt wc T5).at k hkn
      obtain ⟨W5, hW5⟩ : ∃ W, W = wc.setCell ⟨g, k * 4 + 3, none⟩ (.slice ao' c'.length cap') := ⟨_, rfl⟩
      have T6 : Tch [g] W1 W5 := by rw [hW5]; exact T5.nil.setCell (.inl (by simp)) _
      have hX5 : W5.heap[w.heap.size]? = _ := (T6.block _ (by omega) (by simp; omega)).trans hX1
      have hZ5 : W5.heap[w.heap.size + 1]? = _ := (T6.block _ (by omega) (by simp; omega)).trans hZ1
      rw [← hW5] at hMW
      go_upto_region 27 with fail
      rw [← hW5]
      clear hW5 hPut hMt
      obtain ⟨x0, x1, x2, x3, x4, u0, u1, u2, u3, u4⟩ := F5.of hX5
      obtain ⟨W6, hW6⟩ : ∃ W, W = W5.setCell ⟨w.heap.size, 3, none⟩ (.slice (some ⟨g, 0, none⟩) i.methods.length cap) := ⟨_, rfl⟩
      have hX6 : W6.heap[w.heap.size]? = some (.cells (#[.string ⟨i.name.toArray⟩, .slice af i.fields.length cf, .slice ai i.imports.length ci, .slice (some ⟨g, 0, none⟩) i.methods.length cap, .slice ae i.exports.length ce] : Array Value) 30 (0, 0)) := by rw [hW6]; exact box_setc hX5 3 _
      have hZ6 : W6.heap[w.heap.size + 1]? = _ := ((show Tch [w.heap.size] W5 W6 by rw [hW6]; exact (Tch.refl _ _).setCell (.inl (by simp)) _).block _ (heap_lt hZ5) (by simp)).trans hZ5
      have hXn : ∀ (j : Nat) u, (#[.string ⟨i.name.toArray⟩, .slice af i.fields.length cf, .slice ai i.imports.length ci, .slice (some ⟨g, 0, none⟩) i.methods.length cap, .slice ae i.exports.length ce] : Array Value).toList[j]? = some u → W6.cell? ((⟨w.heap.size, 0, none⟩ : Addr).add j) = some u := fun j u hj => World.news_of_block hX6 j u hj
      have T7 : Tch [g, w.heap.size] W1 W6 := by
        rw [hW6]
        exact (T6.mono (by intro i _ hi; simp at hi; simp [hi])).setCell (.inl (by simp)) _
      go_upto_region 28 with fail
      rw [← hW6]
      have hM6 : MOwn W6 55 g cap (w.heap.size :: (w.heap.size + 1) :: L0) (i.methods.set k { mt with code := c' }) := by rw [hW6]; exact hMW.turn ((Tch.refl [w.heap.size] W5).setCell (.inl (by simp)) _) (fun i hi => by simp at hi; subst hi; exact ⟨by simp, by omega⟩)
      clear hW6
      obtain ⟨y0, y1, y2, y3, y4, g0, g1, g2, g3, g4⟩ := F5.of hZ6
      go_wp2_with (first | (refine wpList_load_agg rfl 30 (.tmp 4) rfl ⟨w.heap.size, 0, none⟩ rfl #[.string ⟨i.name.toArray⟩, .slice af i.fields.length cf, .slice ai i.imports.length ci, .slice (some ⟨g, 0, none⟩) i.methods.length cap, .slice ae i.exports.length ce] _ hXn Tryz.underlying30 rfl (by kernel_rfl) ?_) | fail)
      refine bodyPost_ret (v := .agg #[.string ⟨i.name.toArray⟩, .slice af i.fields.length cf, .slice ai i.imports.length ci, .slice (some ⟨g, 0, none⟩) i.methods.length cap, .slice ae i.exports.length ce]) (by simp [results, Tryz.results15, go_sem, y0, y1, y2, y3, y4, g0, g1, g2, g3, g4]) rfl ?_
      have TRx : Tch [w.heap.size + 1] W6 (((((W6.setCell ⟨w.heap.size + 1, 0, none⟩ (.string ⟨i.name.toArray⟩)).setCell ⟨w.heap.size + 1, 1, none⟩ (.slice af i.fields.length cf)).setCell ⟨w.heap.size + 1, 2, none⟩ (.slice ai i.imports.length ci)).setCell ⟨w.heap.size + 1, 3, none⟩ (.slice (some ⟨g, 0, none⟩) i.methods.length cap)).setCell ⟨w.heap.size + 1, 4, none⟩ (.slice ae i.exports.length ce)) := ((((((Tch.refl [w.heap.size + 1] W6).setCell (.inl (by simp)) _).setCell (.inl (by simp)) _).setCell (.inl (by simp)) _).setCell (.inl (by simp)) _).setCell (.inl (by simp)) _)
      have TRw : Tch [] w (((((W6.setCell ⟨w.heap.size + 1, 0, none⟩ (.string ⟨i.name.toArray⟩)).setCell ⟨w.heap.size + 1, 1, none⟩ (.slice af i.fields.length cf)).setCell ⟨w.heap.size + 1, 2, none⟩ (.slice ai i.imports.length ci)).setCell ⟨w.heap.size + 1, 3, none⟩ (.slice (some ⟨g, 0, none⟩) i.methods.length cap)).setCell ⟨w.heap.size + 1, 4, none⟩ (.slice ae i.exports.length ce)) := (T1.trans T7 (M := []) (by simp) (fun i hi hx => by simp at hx; omega)).trans TRx (by simp) (fun i hi hx => by simp at hx; omega)
      have hM7 := (hM6.turn TRx (fun i hi => by simp at hi; subst hi; exact ⟨by simp, by omega⟩)).mths (L0 := L0) (fun i hi => ⟨by simp [hi], by have := hL0 i hi; omega⟩)
      rw [List.length_set] at hM7
      refine ⟨_, rfl, _, hM7, ⟨by simp, fun m hm => ?_⟩, TRw⟩
      rcases List.mem_or_eq_of_mem_set hm with h | h
      · exact ⟨Nat.le_succ_of_le (hc m h).1, (hc m h).2, m, h, rfl, rfl, rfl⟩
      · exact ⟨by rw [h]; exact hl', by rw [h]; exact hz', mt, hmem, by rw [h], by rw [h], by rw [h]⟩
end Go.Proofs.YteebapopeaafhaaGreatDoor
