/-
  CONTRACTS: Name and Applet of taciturnhand, an applet of no statements. Conditions: none.
-/
import Derived.Test.YtapephelfijcbaaGreatDoorHHCode0
import Derived.Test.YtapephelfijcbaaGreatDoorHCodeP
import Derived.Deep.RegionHeld3
namespace Go.Tcn
open Go.RowKit
set_option linter.unusedVariables false
set_option linter.unusedSimpArgs false
def nameOf (n : Int) : List UInt8 := if n % 4 = 0 then [97, 108, 112, 104, 97] else if n % 4 = 1 then [98, 195, 169, 116, 97] else if n % 4 = 2 then [103, 45, 49] else [100, 46, 195, 191]
/-- The applet of a number and of so many raw statements, of whatever code. -/
def appI (k : Int) (n : Nat) (c0 c1 c2 : List Ins) : Img :=
  ⟨nameOf k, [1, 2, 3, 4], [⟨nameOf (wrap64 (k + 1)), 0, [1, 2], 2⟩, ⟨nameOf (wrap64 (wrap64 (k + 1) + (n : Int) % 3)), 1, [4, 3], 3⟩], [⟨[], 0, [1, 2, 3, 4], c0⟩, ⟨[1, 2], 2, [1, 2, 3, 4], c1⟩, ⟨[4, 3], 3, [1, 2], c2⟩], [1, 2]⟩
def CodeOk (c : List Ins) : Prop := (∀ x ∈ c, rightI x.op x.a x.b = true) ∧ 1 ≤ c.length ∧ c.length ≤ 120
theorem run_index_arr {P : Program} {w : World} (t e : TypeId) (n : Nat) (cs : Array Value) (k : IntKind) (i : Int) (v : Value) (h : P.underlying t = some (.array n e)) (hs : (sizeOf e).run P w = .ok 1 w) (ha : (isAgg e).run P w = .ok false w) (hi : 0 ≤ i ∧ i < (n : Int)) (hv : cs[i.toNat]? = some v) : (Instr.index t (.agg cs) (.int k i)).run P w = .ok v w := by
  simp [Instr.index, run_underlying h, asIntOf, hi, hv, go_sem, hs, ha]
/-- An applet while it is made: its blocks lie from r on. -/
structure AppS (TI TM TP TE : TypeId) (r : Nat) (V : World) (n0 n1 n2 : List UInt8) (v0 v1 v2 : Value) : Prop where
  hR : V.heap[r]? = some (.cells #[.string ⟨#[]⟩, .slice none 0 0, .slice none 0 0, .slice none 0 0, .slice none 0 0] TI (0, 0))
  hB : V.heap[r + 1]? = some (.cells #[.int .i64 1, .int .i64 2, .int .i64 3, .int .i64 4] TE (0, 0))
  hF : V.heap[r + 1 + 1]? = some (.cells #[.int .i64 1, .int .i64 2, .int .i64 3, .int .i64 4] TE (0, 0))
  hE : V.heap[r + 1 + 1 + 1]? = some (.cells #[.int .i64 1, .int .i64 2] TE (0, 0))
  hX : V.heap[r + 1 + 1 + 1 + 1]? = some (.cells #[.string ⟨n0.toArray⟩, .slice (some ⟨r + 1 + 1, 0, none⟩) 4 4, .slice (some ⟨r + 1 + 1 + 1 + 1 + 1 + 1 + 1, 0, none⟩) 2 2, .slice (some ⟨r + 1 + 1 + 1 + 1 + 1 + 1 + 1 + 1 + 1 + 1, 0, none⟩) 3 3, .slice (some ⟨r + 1 + 1 + 1, 0, none⟩) 2 2] TI (0, 0))
  hP1 : V.heap[r + 1 + 1 + 1 + 1 + 1]? = some (.cells #[.int .i64 1, .int .i64 2] TE (0, 0))
  hP2 : V.heap[r + 1 + 1 + 1 + 1 + 1 + 1]? = some (.cells #[.int .i64 4, .int .i64 3] TE (0, 0))
  hI : V.heap[r + 1 + 1 + 1 + 1 + 1 + 1 + 1]? = some (.cells #[.string ⟨n1.toArray⟩, .int .i64 0, .slice (some ⟨r + 1 + 1 + 1 + 1 + 1, 0, none⟩) 2 2, .int .i64 2, .string ⟨n2.toArray⟩, .int .i64 1, .slice (some ⟨r + 1 + 1 + 1 + 1 + 1 + 1, 0, none⟩) 2 2, .int .i64 3] TP (0, 0))
  hQ1 : V.heap[r + 1 + 1 + 1 + 1 + 1 + 1 + 1 + 1]? = some (.cells #[.int .i64 1, .int .i64 2] TE (0, 0))
  hQ2 : V.heap[r + 1 + 1 + 1 + 1 + 1 + 1 + 1 + 1 + 1]? = some (.cells #[.int .i64 4, .int .i64 3] TE (0, 0))
  hM : V.ownsRow 0 TM 4 (.slice (some ⟨r + 1 + 1 + 1 + 1 + 1 + 1 + 1 + 1 + 1 + 1, 0, none⟩) 3 3) 3 [.slice none 0 0, .int .i64 0, .slice (some ⟨r + 1, 0, none⟩) 4 4, v0, .slice (some ⟨r + 1 + 1 + 1 + 1 + 1 + 1 + 1 + 1, 0, none⟩) 2 2, .int .i64 2, .slice (some ⟨r + 1, 0, none⟩) 4 4, v1, .slice (some ⟨r + 1 + 1 + 1 + 1 + 1 + 1 + 1 + 1 + 1, 0, none⟩) 2 2, .int .i64 3, .slice (some ⟨r + 1, 0, none⟩) 2 4, v2]
theorem alloc_step (w : World) (o : Obj) : ∃ V, V = w.alloc o ∧ V.heap.size = w.heap.size + 1 ∧ V.heap[w.heap.size]? = some o ∧ (∀ (i : Nat) x, w.heap[i]? = some x → V.heap[i]? = some x) :=
  ⟨_, rfl, by simp, heap_alloc_new w o, fun i x h => by rw [Below.heap_alloc _ _ _ (heap_lt h)]; exact h⟩
theorem AppS.start {TI TM TP TE : TypeId} (w : World) (n0 n1 n2 : List UInt8) : ∃ V, V = (((((((((((w.alloc (.cells #[.string ⟨#[]⟩, .slice none 0 0, .slice none 0 0, .slice none 0 0, .slice none 0 0] TI)).alloc (.cells #[.int .i64 1, .int .i64 2, .int .i64 3, .int .i64 4] TE)).alloc (.cells #[.int .i64 1, .int .i64 2, .int .i64 3, .int .i64 4] TE)).alloc (.cells #[.int .i64 1, .int .i64 2] TE)).alloc (.cells #[.string ⟨n0.toArray⟩, .slice (some ⟨w.heap.size + 1 + 1, 0, none⟩) 4 4, .slice (some ⟨w.heap.size + 1 + 1 + 1 + 1 + 1 + 1 + 1, 0, none⟩) 2 2, .slice (some ⟨w.heap.size + 1 + 1 + 1 + 1 + 1 + 1 + 1 + 1 + 1 + 1, 0, none⟩) 3 3, .slice (some ⟨w.heap.size + 1 + 1 + 1, 0, none⟩) 2 2] TI)).alloc (.cells #[.int .i64 1, .int .i64 2] TE)).alloc (.cells #[.int .i64 4, .int .i64 3] TE)).alloc (.cells #[.string ⟨n1.toArray⟩, .int .i64 0, .slice (some ⟨w.heap.size + 1 + 1 + 1 + 1 + 1, 0, none⟩) 2 2, .int .i64 2, .string ⟨n2.toArray⟩, .int .i64 1, .slice (some ⟨w.heap.size + 1 + 1 + 1 + 1 + 1 + 1, 0, none⟩) 2 2, .int .i64 3] TP)).alloc (.cells #[.int .i64 1, .int .i64 2] TE)).alloc (.cells #[.int .i64 4, .int .i64 3] TE)).alloc (.cells #[.slice none 0 0, .int .i64 0, .slice (some ⟨w.heap.size + 1, 0, none⟩) 4 4, .slice none 0 0, .slice (some ⟨w.heap.size + 1 + 1 + 1 + 1 + 1 + 1 + 1 + 1, 0, none⟩) 2 2, .int .i64 2, .slice (some ⟨w.heap.size + 1, 0, none⟩) 4 4, .slice none 0 0, .slice (some ⟨w.heap.size + 1 + 1 + 1 + 1 + 1 + 1 + 1 + 1 + 1, 0, none⟩) 2 2, .int .i64 3, .slice (some ⟨w.heap.size + 1, 0, none⟩) 2 4, .slice none 0 0] TM)) ∧ AppS TI TM TP TE w.heap.size V n0 n1 n2 (.slice none 0 0) (.slice none 0 0) (.slice none 0 0) ∧ Tch [] w V := by
  obtain ⟨W1, e1, s1, b1, k1⟩ := alloc_step w (.cells #[.string ⟨#[]⟩, .slice none 0 0, .slice none 0 0, .slice none 0 0, .slice none 0 0] TI)
  obtain ⟨W2, e2, s2, b2, k2⟩ := alloc_step W1 (.cells #[.int .i64 1, .int .i64 2, .int .i64 3, .int .i64 4] TE)
  rw [s1] at s2 b2
  obtain ⟨W3, e3, s3, b3, k3⟩ := alloc_step W2 (.cells #[.int .i64 1, .int .i64 2, .int .i64 3, .int .i64 4] TE)
  rw [s2] at s3 b3
  obtain ⟨W4, e4, s4, b4, k4⟩ := alloc_step W3 (.cells #[.int .i64 1, .int .i64 2] TE)
  rw [s3] at s4 b4
  obtain ⟨W5, e5, s5, b5, k5⟩ := alloc_step W4 (.cells #[.string ⟨n0.toArray⟩, .slice (some ⟨w.heap.size + 1 + 1, 0, none⟩) 4 4, .slice (some ⟨w.heap.size + 1 + 1 + 1 + 1 + 1 + 1 + 1, 0, none⟩) 2 2, .slice (some ⟨w.heap.size + 1 + 1 + 1 + 1 + 1 + 1 + 1 + 1 + 1 + 1, 0, none⟩) 3 3, .slice (some ⟨w.heap.size + 1 + 1 + 1, 0, none⟩) 2 2] TI)
  rw [s4] at s5 b5
  obtain ⟨W6, e6, s6, b6, k6⟩ := alloc_step W5 (.cells #[.int .i64 1, .int .i64 2] TE)
  rw [s5] at s6 b6
  obtain ⟨W7, e7, s7, b7, k7⟩ := alloc_step W6 (.cells #[.int .i64 4, .int .i64 3] TE)
  rw [s6] at s7 b7
  obtain ⟨W8, e8, s8, b8, k8⟩ := alloc_step W7 (.cells #[.string ⟨n1.toArray⟩, .int .i64 0, .slice (some ⟨w.heap.size + 1 + 1 + 1 + 1 + 1, 0, none⟩) 2 2, .int .i64 2, .string ⟨n2.toArray⟩, .int .i64 1, .slice (some ⟨w.heap.size + 1 + 1 + 1 + 1 + 1 + 1, 0, none⟩) 2 2, .int .i64 3] TP)
  rw [s7] at s8 b8
  obtain ⟨W9, e9, s9, b9, k9⟩ := alloc_step W8 (.cells #[.int .i64 1, .int .i64 2] TE)
  rw [s8] at s9 b9
  obtain ⟨W10, e10, s10, b10, k10⟩ := alloc_step W9 (.cells #[.int .i64 4, .int .i64 3] TE)
  rw [s9] at s10 b10
  have hM := World.ownsRow_lit (base := 0) (e := TM) (size := 4) W10 #[.slice none 0 0, .int .i64 0, .slice (some ⟨w.heap.size + 1, 0, none⟩) 4 4, .slice none 0 0, .slice (some ⟨w.heap.size + 1 + 1 + 1 + 1 + 1 + 1 + 1 + 1, 0, none⟩) 2 2, .int .i64 2, .slice (some ⟨w.heap.size + 1, 0, none⟩) 4 4, .slice none 0 0, .slice (some ⟨w.heap.size + 1 + 1 + 1 + 1 + 1 + 1 + 1 + 1 + 1, 0, none⟩) 2 2, .int .i64 3, .slice (some ⟨w.heap.size + 1, 0, none⟩) 2 4, .slice none 0 0] 3 (Nat.zero_le _) (by decide) rfl
  rw [s10] at hM
  obtain ⟨W11, e11, s11, b11, k11⟩ := alloc_step W10 (.cells #[.slice none 0 0, .int .i64 0, .slice (some ⟨w.heap.size + 1, 0, none⟩) 4 4, .slice none 0 0, .slice (some ⟨w.heap.size + 1 + 1 + 1 + 1 + 1 + 1 + 1 + 1, 0, none⟩) 2 2, .int .i64 2, .slice (some ⟨w.heap.size + 1, 0, none⟩) 4 4, .slice none 0 0, .slice (some ⟨w.heap.size + 1 + 1 + 1 + 1 + 1 + 1 + 1 + 1 + 1, 0, none⟩) 2 2, .int .i64 3, .slice (some ⟨w.heap.size + 1, 0, none⟩) 2 4, .slice none 0 0] TM)
  rw [← e11] at hM
  refine ⟨W11, by rw [e11, e10, e9, e8, e7, e6, e5, e4, e3, e2, e1], ⟨k11 _ _ (k10 _ _ (k9 _ _ (k8 _ _ (k7 _ _ (k6 _ _ (k5 _ _ (k4 _ _ (k3 _ _ (k2 _ _ (b1)))))))))), k11 _ _ (k10 _ _ (k9 _ _ (k8 _ _ (k7 _ _ (k6 _ _ (k5 _ _ (k4 _ _ (k3 _ _ (b2))))))))), k11 _ _ (k10 _ _ (k9 _ _ (k8 _ _ (k7 _ _ (k6 _ _ (k5 _ _ (k4 _ _ (b3)))))))), k11 _ _ (k10 _ _ (k9 _ _ (k8 _ _ (k7 _ _ (k6 _ _ (k5 _ _ (b4))))))), k11 _ _ (k10 _ _ (k9 _ _ (k8 _ _ (k7 _ _ (k6 _ _ (b5)))))), k11 _ _ (k10 _ _ (k9 _ _ (k8 _ _ (k7 _ _ (b6))))), k11 _ _ (k10 _ _ (k9 _ _ (k8 _ _ (b7)))), k11 _ _ (k10 _ _ (k9 _ _ (b8))), k11 _ _ (k10 _ _ (b9)), k11 _ _ (b10), hM⟩, ?_⟩
  rw [e11, e10, e9, e8, e7, e6, e5, e4, e3, e2, e1]
  exact (((((((((((Tch.refl [] w).alloc _).alloc _).alloc _).alloc _).alloc _).alloc _).alloc _).alloc _).alloc _).alloc _).alloc _
theorem AppS.tch {TI TM TP TE : TypeId} {r : Nat} {V V' : World} {n0 n1 n2 : List UInt8} {v0 v1 v2 : Value} (h : AppS TI TM TP TE r V n0 n1 n2 v0 v1 v2) (t : Tch [] V V') : AppS TI TM TP TE r V' n0 n1 n2 v0 v1 v2 := by
  have k : ∀ i o, V.heap[i]? = some o → V'.heap[i]? = some o := fun i o hi => by rw [t.block i (heap_lt hi) (by simp)]; exact hi
  exact ⟨k _ _ h.hR, k _ _ h.hB, k _ _ h.hF, k _ _ h.hE, k _ _ h.hX, k _ _ h.hP1, k _ _ h.hP2, k _ _ h.hI, k _ _ h.hQ1, k _ _ h.hQ2, ownsRow_tch h.hM t (by simp)⟩
theorem AppS.set0 {TI TM TP TE : TypeId} {r : Nat} {V : World} {n0 n1 n2 : List UInt8} {v0 v1 v2 : Value} (h : AppS TI TM TP TE r V n0 n1 n2 v0 v1 v2) (u : Value) : AppS TI TM TP TE r (V.setCell ⟨r + 1 + 1 + 1 + 1 + 1 + 1 + 1 + 1 + 1 + 1, 3, none⟩ u) n0 n1 n2 u v1 v2 := by
  have k : ∀ i o, i ≠ r + 1 + 1 + 1 + 1 + 1 + 1 + 1 + 1 + 1 + 1 → V.heap[i]? = some o → (V.setCell ⟨r + 1 + 1 + 1 + 1 + 1 + 1 + 1 + 1 + 1 + 1, 3, none⟩ u).heap[i]? = some o := fun i o hi h => by rw [Below.heap_setCell _ _ _ _ hi]; exact h
  exact ⟨k _ _ (by omega) h.hR, k _ _ (by omega) h.hB, k _ _ (by omega) h.hF, k _ _ (by omega) h.hE, k _ _ (by omega) h.hX, k _ _ (by omega) h.hP1, k _ _ (by omega) h.hP2, k _ _ (by omega) h.hI, k _ _ (by omega) h.hQ1, k _ _ (by omega) h.hQ2, by simpa using (h.hM.stored 3 u).1⟩
theorem AppS.set1 {TI TM TP TE : TypeId} {r : Nat} {V : World} {n0 n1 n2 : List UInt8} {v0 v1 v2 : Value} (h : AppS TI TM TP TE r V n0 n1 n2 v0 v1 v2) (u : Value) : AppS TI TM TP TE r (V.setCell ⟨r + 1 + 1 + 1 + 1 + 1 + 1 + 1 + 1 + 1 + 1, 7, none⟩ u) n0 n1 n2 v0 u v2 := by
  have k : ∀ i o, i ≠ r + 1 + 1 + 1 + 1 + 1 + 1 + 1 + 1 + 1 + 1 → V.heap[i]? = some o → (V.setCell ⟨r + 1 + 1 + 1 + 1 + 1 + 1 + 1 + 1 + 1 + 1, 7, none⟩ u).heap[i]? = some o := fun i o hi h => by rw [Below.heap_setCell _ _ _ _ hi]; exact h
  exact ⟨k _ _ (by omega) h.hR, k _ _ (by omega) h.hB, k _ _ (by omega) h.hF, k _ _ (by omega) h.hE, k _ _ (by omega) h.hX, k _ _ (by omega) h.hP1, k _ _ (by omega) h.hP2, k _ _ (by omega) h.hI, k _ _ (by omega) h.hQ1, k _ _ (by omega) h.hQ2, by simpa using (h.hM.stored 7 u).1⟩
theorem AppS.set2 {TI TM TP TE : TypeId} {r : Nat} {V : World} {n0 n1 n2 : List UInt8} {v0 v1 v2 : Value} (h : AppS TI TM TP TE r V n0 n1 n2 v0 v1 v2) (u : Value) : AppS TI TM TP TE r (V.setCell ⟨r + 1 + 1 + 1 + 1 + 1 + 1 + 1 + 1 + 1 + 1, 11, none⟩ u) n0 n1 n2 v0 v1 u := by
  have k : ∀ i o, i ≠ r + 1 + 1 + 1 + 1 + 1 + 1 + 1 + 1 + 1 + 1 → V.heap[i]? = some o → (V.setCell ⟨r + 1 + 1 + 1 + 1 + 1 + 1 + 1 + 1 + 1 + 1, 11, none⟩ u).heap[i]? = some o := fun i o hi h => by rw [Below.heap_setCell _ _ _ _ hi]; exact h
  exact ⟨k _ _ (by omega) h.hR, k _ _ (by omega) h.hB, k _ _ (by omega) h.hF, k _ _ (by omega) h.hE, k _ _ (by omega) h.hX, k _ _ (by omega) h.hP1, k _ _ (by omega) h.hP2, k _ _ (by omega) h.hI, k _ _ (by omega) h.hQ1, k _ _ (by omega) h.hQ2, by simpa using (h.hM.stored 11 u).1⟩
theorem src_block {w : World} {L : List Nat} {g : Nat} {cs : Array Value} {T : TypeId} (h : w.heap[g]? = some (.cells cs T (0, 0))) (hg : g ∉ L) (n c : Nat) (hn : n ≤ c) (xs : List Value) (hx : ∀ (j : Nat) u, xs[j]? = some u → cs.toList[j]? = some u) : Src w L (.slice (some ⟨g, 0, none⟩) n c) n xs :=
  ⟨.inr ⟨_, _, rfl, hn, fun j u hj => ⟨hg, World.news_of_block h j u (hx j u hj)⟩⟩⟩
theorem AppS.iB {TI TM TP TE : TypeId} {r : Nat} {V : World} {n0 n1 n2 : List UInt8} {v0 v1 v2 : Value} {L : List Nat} (hL : ∀ i ∈ L, i < r) (h : AppS TI TM TP TE r V n0 n1 n2 v0 v1 v2) : RInts V (r :: L) (.slice (some ⟨r + 1, 0, none⟩) 4 4) [1, 2, 3, 4] := src_block h.hB (fun hx => by
    rcases List.mem_cons.1 hx with hx | hx
    · omega
    · have := hL _ hx; omega) _ _ (by decide) _ (fun j u hj => hj)
theorem AppS.iB2 {TI TM TP TE : TypeId} {r : Nat} {V : World} {n0 n1 n2 : List UInt8} {v0 v1 v2 : Value} {L : List Nat} (hL : ∀ i ∈ L, i < r) (h : AppS TI TM TP TE r V n0 n1 n2 v0 v1 v2) : RInts V (r :: L) (.slice (some ⟨r + 1, 0, none⟩) 2 4) [1, 2] := src_block h.hB (fun hx => by
    rcases List.mem_cons.1 hx with hx | hx
    · omega
    · have := hL _ hx; omega) _ _ (by decide) _ (fun j u hj => by rcases j with _ | _ | j <;> first | exact hj | simp [ints] at hj)
theorem AppS.iF {TI TM TP TE : TypeId} {r : Nat} {V : World} {n0 n1 n2 : List UInt8} {v0 v1 v2 : Value} {L : List Nat} (hL : ∀ i ∈ L, i < r) (h : AppS TI TM TP TE r V n0 n1 n2 v0 v1 v2) : RInts V (r :: L) (.slice (some ⟨r + 1 + 1, 0, none⟩) 4 4) [1, 2, 3, 4] := src_block h.hF (fun hx => by
    rcases List.mem_cons.1 hx with hx | hx
    · omega
    · have := hL _ hx; omega) _ _ (by decide) _ (fun j u hj => hj)
theorem AppS.iE {TI TM TP TE : TypeId} {r : Nat} {V : World} {n0 n1 n2 : List UInt8} {v0 v1 v2 : Value} {L : List Nat} (hL : ∀ i ∈ L, i < r) (h : AppS TI TM TP TE r V n0 n1 n2 v0 v1 v2) : RInts V (r :: L) (.slice (some ⟨r + 1 + 1 + 1, 0, none⟩) 2 2) [1, 2] := src_block h.hE (fun hx => by
    rcases List.mem_cons.1 hx with hx | hx
    · omega
    · have := hL _ hx; omega) _ _ (by decide) _ (fun j u hj => hj)
theorem AppS.iP1 {TI TM TP TE : TypeId} {r : Nat} {V : World} {n0 n1 n2 : List UInt8} {v0 v1 v2 : Value} {L : List Nat} (hL : ∀ i ∈ L, i < r) (h : AppS TI TM TP TE r V n0 n1 n2 v0 v1 v2) : RInts V (r :: L) (.slice (some ⟨r + 1 + 1 + 1 + 1 + 1, 0, none⟩) 2 2) [1, 2] := src_block h.hP1 (fun hx => by
    rcases List.mem_cons.1 hx with hx | hx
    · omega
    · have := hL _ hx; omega) _ _ (by decide) _ (fun j u hj => hj)
theorem AppS.iP2 {TI TM TP TE : TypeId} {r : Nat} {V : World} {n0 n1 n2 : List UInt8} {v0 v1 v2 : Value} {L : List Nat} (hL : ∀ i ∈ L, i < r) (h : AppS TI TM TP TE r V n0 n1 n2 v0 v1 v2) : RInts V (r :: L) (.slice (some ⟨r + 1 + 1 + 1 + 1 + 1 + 1, 0, none⟩) 2 2) [4, 3] := src_block h.hP2 (fun hx => by
    rcases List.mem_cons.1 hx with hx | hx
    · omega
    · have := hL _ hx; omega) _ _ (by decide) _ (fun j u hj => hj)
theorem AppS.iQ1 {TI TM TP TE : TypeId} {r : Nat} {V : World} {n0 n1 n2 : List UInt8} {v0 v1 v2 : Value} {L : List Nat} (hL : ∀ i ∈ L, i < r) (h : AppS TI TM TP TE r V n0 n1 n2 v0 v1 v2) : RInts V (r :: L) (.slice (some ⟨r + 1 + 1 + 1 + 1 + 1 + 1 + 1 + 1, 0, none⟩) 2 2) [1, 2] := src_block h.hQ1 (fun hx => by
    rcases List.mem_cons.1 hx with hx | hx
    · omega
    · have := hL _ hx; omega) _ _ (by decide) _ (fun j u hj => hj)
theorem AppS.iQ2 {TI TM TP TE : TypeId} {r : Nat} {V : World} {n0 n1 n2 : List UInt8} {v0 v1 v2 : Value} {L : List Nat} (hL : ∀ i ∈ L, i < r) (h : AppS TI TM TP TE r V n0 n1 n2 v0 v1 v2) : RInts V (r :: L) (.slice (some ⟨r + 1 + 1 + 1 + 1 + 1 + 1 + 1 + 1 + 1, 0, none⟩) 2 2) [4, 3] := src_block h.hQ2 (fun hx => by
    rcases List.mem_cons.1 hx with hx | hx
    · omega
    · have := hL _ hx; omega) _ _ (by decide) _ (fun j u hj => hj)
theorem AppS.imps {TI TM TP TE : TypeId} {r : Nat} {V : World} {n0 n1 n2 : List UInt8} {v0 v1 v2 : Value} {L : List Nat} (hL : ∀ i ∈ L, i < r) (h : AppS TI TM TP TE r V n0 n1 n2 v0 v1 v2) : RImps V (r :: L) (.slice (some ⟨r + 1 + 1 + 1 + 1 + 1 + 1 + 1, 0, none⟩) 2 2) [⟨n1, 0, [1, 2], 2⟩, ⟨n2, 1, [4, 3], 3⟩] := by
  refine ⟨⟨[[str n1, .int .i64 0, .slice (some ⟨r + 1 + 1 + 1 + 1 + 1, 0, none⟩) 2 2, .int .i64 2], [str n2, .int .i64 1, .slice (some ⟨r + 1 + 1 + 1 + 1 + 1 + 1, 0, none⟩) 2 2, .int .i64 3]], rfl, by simp, src_block h.hI (fun hx => by
    rcases List.mem_cons.1 hx with hx | hx
    · omega
    · have := hL _ hx; omega) _ _ (by decide) _ (fun j u hj => hj), fun k cs x hc hx => ?_⟩⟩
  rcases k with _ | _ | k
  · simp at hc hx; subst hc; subst hx; exact ⟨_, rfl, (AppS.iP1 hL h)⟩
  · simp at hc hx; subst hc; subst hx; exact ⟨_, rfl, (AppS.iP2 hL h)⟩
  · simp at hc
theorem AppS.mths {TI TM TP TE : TypeId} {r : Nat} {V : World} {n0 n1 n2 : List UInt8} {v0 v1 v2 : Value} {L : List Nat} (hL : ∀ i ∈ L, i < r) (h : AppS TI TM TP TE r V n0 n1 n2 v0 v1 v2) {c0 c1 c2 : List Ins} (hc0 : RCode V (r :: L) v0 c0) (hc1 : RCode V (r :: L) v1 c1) (hc2 : RCode V (r :: L) v2 c2) : RMths V (r :: L) (.slice (some ⟨r + 1 + 1 + 1 + 1 + 1 + 1 + 1 + 1 + 1 + 1, 0, none⟩) 3 3) [⟨[], 0, [1, 2, 3, 4], c0⟩, ⟨[1, 2], 2, [1, 2, 3, 4], c1⟩, ⟨[4, 3], 3, [1, 2], c2⟩] := by
  refine ⟨⟨[[.slice none 0 0, .int .i64 0, .slice (some ⟨r + 1, 0, none⟩) 4 4, v0], [.slice (some ⟨r + 1 + 1 + 1 + 1 + 1 + 1 + 1 + 1, 0, none⟩) 2 2, .int .i64 2, .slice (some ⟨r + 1, 0, none⟩) 4 4, v1], [.slice (some ⟨r + 1 + 1 + 1 + 1 + 1 + 1 + 1 + 1 + 1, 0, none⟩) 2 2, .int .i64 3, .slice (some ⟨r + 1, 0, none⟩) 2 4, v2]], rfl, by simp, src_of_owns h.hM _ (fun g hg hx => by
    simp [Value.ownBlock] at hg
    rcases List.mem_cons.1 hx with hx | hx
    · omega
    · have := hL _ hx; omega), fun k cs x hc hx => ?_⟩⟩
  rcases k with _ | _ | _ | k
  · simp at hc hx; subst hc; subst hx; exact ⟨_, _, _, rfl, ⟨.inl ⟨rfl, rfl, rfl⟩⟩, (AppS.iB hL h), hc0⟩
  · simp at hc hx; subst hc; subst hx; exact ⟨_, _, _, rfl, (AppS.iQ1 hL h), (AppS.iB hL h), hc1⟩
  · simp at hc hx; subst hc; subst hx; exact ⟨_, _, _, rfl, (AppS.iQ2 hL h), (AppS.iB2 hL h), hc2⟩
  · simp at hc
theorem AppS.img {TI TM TP TE : TypeId} {r : Nat} {V : World} {n0 n1 n2 : List UInt8} {v0 v1 v2 : Value} {L : List Nat} (hL : ∀ i ∈ L, i < r) (h : AppS TI TM TP TE r V n0 n1 n2 v0 v1 v2) {c0 c1 c2 : List Ins} (hc0 : RCode V (r :: L) v0 c0) (hc1 : RCode V (r :: L) v1 c1) (hc2 : RCode V (r :: L) v2 c2) : RImg V (r :: L) [str n0, .slice (some ⟨r + 1 + 1, 0, none⟩) 4 4, .slice (some ⟨r + 1 + 1 + 1 + 1 + 1 + 1 + 1, 0, none⟩) 2 2, .slice (some ⟨r + 1 + 1 + 1 + 1 + 1 + 1 + 1 + 1 + 1 + 1, 0, none⟩) 3 3, .slice (some ⟨r + 1 + 1 + 1, 0, none⟩) 2 2] ⟨n0, [1, 2, 3, 4], [⟨n1, 0, [1, 2], 2⟩, ⟨n2, 1, [4, 3], 3⟩], [⟨[], 0, [1, 2, 3, 4], c0⟩, ⟨[1, 2], 2, [1, 2, 3, 4], c1⟩, ⟨[4, 3], 3, [1, 2], c2⟩], [1, 2]⟩ :=
  ⟨_, _, _, _, rfl, (AppS.iF hL h), (AppS.imps hL h), (AppS.mths hL h hc0 hc1 hc2), (AppS.iE hL h)⟩
end Go.Tcn
namespace Go.Proofs.YtapephelfijcbaaGreatDoor
open Go.RowKit Go.Tcn
set_option linter.unusedVariables false
set_option linter.unusedSimpArgs false

set_option maxRecDepth 100000 in
set_option maxHeartbeats 4000000 in
theorem hand_Name (w : World) (k : Int) (hk : I6 k) : Calls Tryz.prog 43 #[.int .i64 k] w fun e w' => e = .returned (.string ⟨(nameOf k).toArray⟩) ∧ w = w' := by
  have h4 : k % 4 = 0 ∨ k % 4 = 1 ∨ k % 4 = 2 ∨ k % 4 = 3 := by omega
  have hP := fun w => hand_Pick k 4 hk (by omega) (by omega) w
  unfold nameOf
  rcases h4 with e4 | e4 | e4 | e4
  all_goals
    rw [e4] at hP ⊢
    clear e4
    go_enter Tryz.func43, Tryz.ntmps43
    go_wp2_with fail
    refine (hP _).mono ?_
    rintro e w1 ⟨rfl, rfl⟩
    have hix := fun i v hi hv => run_index_arr (P := Tryz.prog) (w := w) 107 9 4 #[.string ⟨#[97, 108, 112, 104, 97]⟩, .string ⟨#[98, 195, 169, 116, 97]⟩, .string ⟨#[103, 45, 49]⟩, .string ⟨#[100, 46, 195, 191]⟩] .i64 i v Tryz.underlying107 rfl rfl hi hv
    have h0 := hix 0 _ (by omega) rfl
    have h1 := hix 1 _ (by omega) rfl
    have h2 := hix 2 _ (by omega) rfl
    have h3 := hix 3 _ (by omega) rfl
    clear hix
    go_wp2_with fail
    go_ret
    exact ⟨rfl, rfl⟩
end Go.Proofs.YtapephelfijcbaaGreatDoor
