/-
  CONTRACTS: Name and Applet of taciturnhand, an applet of no statements. Conditions: none.
  CONTRACTS: Applet of taciturnhand, of raw statements. Conditions: the raw statements fit.
  AN APPLET OF RAW STATEMENTS, opened: what it is, and that it may be. Conditions: the raw statements fit in memory.
-/
import Derived.Test.YteebapopeaafhaaGreatDoorHHCode0
import Derived.Test.YteebapopeaafhaaGreatDoorHCodeP
import Derived.Deep.RegionHeld3
import Derived.Test.YteebapopeaafhaaGreatDoorHHCode
import Derived.Test.YteebapopeaafhaaGreatDoorHBnb
import Derived.Test.YteebapopeaafhaaGreatDoorHImr
namespace Go.Tcn
open Go.RowKit
set_option linter.unusedVariables false
set_option linter.unusedSimpArgs false
def nameOf (n : Int) : List UInt8 := if n % 4 = 0 then [97, 108, 112, 104, 97] else if n % 4 = 1 then [98, 195, 169, 116, 97] else if n % 4 = 2 then [103, 45, 49] else [100, 46, 195, 191]
/-- The applet of a number and of so many raw statements, of whatever code. -/
def appI (k : Int) (n : Nat) (c0 c1 c2 : List Ins) : Img :=
  ⟨nameOf k, [1, 2, 3, 4], [⟨nameOf (wrap64 (k + 1)), 0, [1, 2], 2⟩, ⟨nameOf (wrap64 (wrap64 (k + 1) + (n : Int) % 3)), 1, [4, 3], 3⟩], [⟨[], 0, [1, 2, 3, 4], c0⟩, ⟨[1, 2], 2, [1, 2, 3, 4], c1⟩, ⟨[4, 3], 3, [1, 2], c2⟩], [1, 2]⟩
def CodeOk (c : List Ins) : Prop := (∀ x ∈ c, rightI x.op x.a x.b = true) ∧ 1 ≤ c.length ∧ c.length ≤ 120
theorem run_index_arr {P : Program} {w : World} (t e : TypeId) (n : Nat) (cs : Array Value) (k : IntKind) (i : Int) (v : Value) (h : P.underlying t = some (.array n e)) (hs : (sizeOf e).run P w = .ok 1 w) (ha : (isAgg e).run P w = .ok false w) (hi : 0 ≤ i ∧ i < (n : Int)) (hv : cs[i.toNat]? = some v) : (Instr.index t (.agg cs) (.int k i)).run P w = .ok v w := by
  simp [Instr.index, run_underlying h, asIntOf, hi, hv, go_sem, hs, ha]
/-- An applet while it is made: its blocks lie from r on. -/
structure AppS (TI TM TP TE : TypeId) (r : Nat) (V : World) (n0 n1 n2 : List UInt8) (v0 v1 v2 : Value) : Prop where
  hR : V.heap[r]? = some (.cells #[.string ⟨#[]⟩, .slice none 0 0, .slice none 0 0, .slice none 0 0, .slice none 0 0] TI (0, 0))
  hB : V.heap[r + 1]? = some (.cells #[.int .i64 1, .int .i64 2, .int .i64 3, .int .i64 4] TE (0, 0))
  hF : V.heap[r + 1 + 1]? = some (.cells #[.int .i64 1, .int .i64 2, .int .i64 3, .int .i64 4] TE (0, 0))
  hE : V.heap[r + 1 + 1 + 1]? = some (.cells #[.int .i64 1, .int .i64 2] TE (0, 0))
  hX : V.heap[r + 1 + 1 + 1 + 1]? = some (.cells #[.string ⟨n0.toArray⟩, .slice (some ⟨r + 1 + 1, 0, none⟩) 4 4, .slice (some ⟨r + 1 + 1 + 1 + 1 + 1 + 1 + 1, 0, none⟩) 2 2, .slice (some ⟨r + 1 + 1 + 1 + 1 + 1 + 1 + 1 + 1 + 1 + 1, 0, none⟩) 3 3, .slice (some ⟨r + 1 + 1 + 1, 0, none⟩) 2 2] TI (0, 0))
  hP1 : V.heap[r + 1 + 1 + 1 + 1 + 1]? = some (.cells #[.int .i64 1, .int .i64 2] TE (0, 0))
  hP2 : V.heap[r + 1 + 1 + 1 + 1 + 1 + 1]? = some (.cells #[.int .i64 4, .int .i64 3] TE (0, 0))
  hI : V.heap[r + 1 + 1 + 1 + 1 + 1 + 1 + 1]? = some (.cells #[.string ⟨n1.toArray⟩, .int .i64 0, .slice (some ⟨r + 1 + 1 + 1 + 1 + 1, 0, none⟩) 2 2, .int .i64 2, .string ⟨n2.toArray⟩, .int .i64 1, .slice (some ⟨r + 1 + 1 + 1 + 1 + 1 + 1, 0, none⟩) 2 2, .int .i64 3] TP (0, 0))
  hQ1 : V.heap[r + 1 + 1 + 1 + 1 + 1 + 1 + 1 + 1]? = some (.cells #[.int .i64 1, .int .i64 2] TE (0, 0))
  hQ2 : V.heap[r + 1 + 1 + 1 + 1 + 1 + 1 + 1 + 1 + 1]? = some (.cells #[.int .i64 4, .int .i64 3] TE (0, 0))
  hM : V.ownsRow 0 TM 4 (.slice (some ⟨r + 1 + 1 + 1 + 1 + 1 + 1 + 1 + 1 + 1 + 1, 0, none⟩) 3 3) 3 [.slice none 0 0, .int .i64 0, .slice (some ⟨r + 1, 0, none⟩) 4 4, v0, .slice (some ⟨r + 1 + 1 + 1 + 1 + 1 + 1 + 1 + 1, 0, none⟩) 2 2, .int .i64 2, .slice (some ⟨r + 1, 0, none⟩) 4 4, v1, .slice (some ⟨r + 1 + 1 + 1 + 1 + 1 + 1 + 1 + 1 + 1, 0, none⟩) 2 2, .int .i64 3, .slice (some ⟨r + 1, 0, none⟩) 2 4, v2]
theorem alloc_step (w : World) (o : Obj) : ∃ V, V = w.alloc o ∧ V.heap.size = w.heap.size + 1 ∧ V.heap[w.heap.size]? = some o ∧ (∀ (i : Nat) x, w.heap[i]? = some x → V.heap[i]? = some x) :=
  ⟨_, rfl, by simp, heap_alloc_new w o, fun i x h => by rw [Below.heap_alloc _ _ _ (heap_lt h)]; exact h⟩
theorem AppS.start {TI TM TP TE : TypeId} (w : World) (n0 n1 n2 : List UInt8) : ∃ V, V = (((((((((((w.alloc (.cells #[.string ⟨#[]⟩, .slice none 0 0, .slice none 0 0, .slice none 0 0, .slice none 0 0] TI)).alloc (.cells #[.int .i64 1, .int .i64 2, .int .i64 3, .int .i64 4] TE)).alloc (.cells #[.int .i64 1, .int .i64 2, .int .i64 3, .int .i64 4] TE)).alloc (.cells #[.int .i64 1, .int .i64 2] TE)).alloc (.cells #[.string ⟨n0.toArray⟩, .slice (some ⟨w.heap.size + 1 + 1, 0, none⟩) 4 4, .slice (some ⟨w.heap.size + 1 + 1 + 1 + 1 + 1 + 1 + 1, 0, none⟩) 2 2, .slice (some ⟨w.heap.size + 1 + 1 + 1 + 1 + 1 + 1 + 1 + 1 + 1 + 1, 0, none⟩) 3 3, .slice (some ⟨w.heap.size + 1 + 1 + 1, 0, none⟩) 2 2] TI)).alloc (.cells #[.int .i64 1, .int .i64 2] TE)).alloc (.cells #[.int .i64 4, .int .i64 3] TE)).alloc (.cells #[.string ⟨n1.toArray⟩, .int .i64 0, .slice (some ⟨w.heap.size + 1 + 1 + 1 + 1 + 1, 0, none⟩) 2 2, .int .i64 2, .string ⟨n2.toArray⟩, .int .i64 1, .slice (some ⟨w.heap.size + 1 + 1 + 1 + 1 + 1 + 1, 0, none⟩) 2 2, .int .i64 3] TP)).alloc (.cells #[.int .i64 1, .int .i64 2] TE)).alloc (.cells #[.int .i64 4, .int .i64 3] TE)).alloc (.cells #[.slice none 0 0, .int .i64 0, .slice (some ⟨w.heap.size + 1, 0, none⟩) 4 4, .slice none 0 0, .slice (some ⟨w.heap.size + 1 + 1 + 1 + 1 + 1 + 1 + 1 + 1, 0, none⟩) 2 2, .int .i64 2, .slice (some ⟨w.heap.size + 1, 0, none⟩) 4 4, .slice none 0 0, .slice (some ⟨w.heap.size + 1 + 1 + 1 + 1 + 1 + 1 + 1 + 1 + 1, 0, none⟩) 2 2, .int .i64 3, .slice (some ⟨w.heap.size + 1, 0, none⟩) 2 4, .slice none 0 0] TM)) ∧ AppS TI TM TP TE w.heap.size V n0 n1 n2 (.slice none 0 0) (.slice none 0 0) (.slice none 0 0) ∧ Tch [] w V := by
  obtain ⟨W1, e1, s1, b1, k1⟩ := alloc_step w (.cells #[.string ⟨#[]⟩, .slice none 0 0, .slice none 0 0, .slice none 0 0, .slice none 0 0] TI)
  obtain ⟨W2, e2, s2, b2, k2⟩ := alloc_step W1 (.cells #[.int .i64 1, .int .i64 2, .int .i64 3, .int .i64 4] TE)
  rw [s1] at s2 b2
  obtain ⟨W3, e3, s3, b3, k3⟩ := alloc_step W2 (.cells #[.int .i64 1, .int .i64 2, .int .i64 3, .int .i64 4] TE)
  rw [s2] at s3 b3
  obtain ⟨W4, e4, s4, b4, k4⟩ := alloc_step W3 (.cells #[.int .i64 1, .int .i64 2] TE)
  rw [s3] at s4 b4
  obtain ⟨W5, e5, s5, b5, k5⟩ := alloc_step W4 (.cells #[.string ⟨n0.toArray⟩, .slice (some ⟨w.heap.size + 1 + 1, 0, none⟩) 4 4, .slice (some ⟨w.heap.size + 1 + 1 + 1 + 1 + 1 + 1 + 1, 0, none⟩) 2 2, .slice (some ⟨w.heap.size + 1 + 1 + 1 + 1 + 1 + 1 + 1 + 1 + 1 + 1, 0, none⟩) 3 3, .slice (some ⟨w.heap.size + 1 + 1 + 1, 0, none⟩) 2 2] TI)
  rw [s4] at s5 b5
  obtain ⟨W6, e6, s6, b6, k6⟩ := alloc_step W5 (.cells #[.int .i64 1, .int .i64 2] TE)
  rw [s5] at s6 b6
  obtain ⟨W7, e7, s7, b7, k7⟩ := alloc_step W6 (.cells #[.int .i64 4, .int .i64 3] TE)
  rw [s6] at s7 b7
  obtain ⟨W8, e8, s8, b8, k8⟩ := alloc_step W7 (.cells #[.string ⟨n1.toArray⟩, .int .i64 0, .slice (some ⟨w.heap.size + 1 + 1 + 1 + 1 + 1, 0, none⟩) 2 2, .int .i64 2, .string ⟨n2.toArray⟩, .int .i64 1, .slice (some ⟨w.heap.size + 1 + 1 + 1 + 1 + 1 + 1, 0, none⟩) 2 2, .int .i64 3] TP)
  rw [s7] at s8 b8
  obtain ⟨W9, e9, s9, b9, k9⟩ := alloc_step W8 (.cells #[.int .i64 1, .int .i64 2] TE)
  rw [s8] at s9 b9
  obtain ⟨W10, e10, s10, b10, k10⟩ := alloc_step W9 (.cells #[.int .i64 4, .int .i64 3] TE)
  rw [s9] at s10 b10
  have hM := World.ownsRow_lit (base := 0) (e := TM) (size := 4) W10 #[.slice none 0 0, .int .i64 0, .slice (some ⟨w.heap.size + 1, 0, none⟩) 4 4, .slice none 0 0, .slice (some ⟨w.heap.size + 1 + 1 + 1 + 1 + 1 + 1 + 1 + 1, 0, none⟩) 2 2, .int .i64 2, .slice (some ⟨w.heap.size + 1, 0, none⟩) 4 4, .slice none 0 0, .slice (some ⟨w.heap.size + 1 + 1 + 1 + 1 + 1 + 1 + 1 + 1 + 1, 0, none⟩) 2 2, .int .i64 3, .slice (some ⟨w.heap.size + 1, 0, none⟩) 2 4, .slice none 0 0] 3 (Nat.zero_le _) (by decide) rfl
  rw [s10] at hM
  obtain ⟨W11, e11, s11, b11, k11⟩ := alloc_step W10 (.cells #[.slice none 0 0, .int .i64 0, .slice (some ⟨w.heap.size + 1, 0, none⟩) 4 4, .slice none 0 0, .slice (some ⟨w.heap.size + 1 + 1 + 1 + 1 + 1 + 1 + 1 + 1, 0, none⟩) 2 2, .int .i64 2, .slice (some ⟨w.heap.size + 1, 0, none⟩) 4 4, .slice none 0 0, .slice (some ⟨w.heap.size + 1 + 1 + 1 + 1 + 1 + 1 + 1 + 1 + 1, 0, none⟩) 2 2, .int .i64 3, .slice (some ⟨w.heap.size + 1, 0, none⟩) 2 4, .slice none 0 0] TM)
  rw [← e11] at hM
  refine ⟨W11, by rw [e11, e10, e9, e8, e7, e6, e5, e4, e3, e2, e1], ⟨k11 _ _ (k10 _ _ (k9 _ _ (k8 _ _ (k7 _ _ (k6 _ _ (k5 _ _ (k4 _ _ (k3 _ _ (k2 _ _ (b1)))))))))), k11 _ _ (k10 _ _ (k9 _ _ (k8 _ _ (k7 _ _ (k6 _ _ (k5 _ _ (k4 _ _ (k3 _ _ (b2))))))))), k11 _ _ (k10 _ _ (k9 _ _ (k8 _ _ (k7 _ _ (k6 _ _ (k5 _ _ (k4 _ _ (b3)))))))), k11 _ _ (k10 _ _ (k9 _ _ (k8 _ _ (k7 _ _ (k6 _ _ (k5 _ _ (b4))))))), k11 _ _ (k10 _ _ (k9 _ _ (k8 _ _ (k7 _ _ (k6 _ _ (b5)))))), k11 _ _ (k10 _ _ (k9 _ _ (k8 _ _ (k7 _ _ (b6))))), k11 _ _ (k10 _ _ (k9 _ _ (k8 _ _ (b7)))), k11 _ _ (k10 _ _ (k9 _ _ (b8))), k11 _ _ (k10 _ _ (b9)), k11 _ _ (b10), hM⟩, ?_⟩
  rw [e11, e10, e9, e8, e7, e6, e5, e4, e3, e2, e1]
  exact (((((((((((Tch.refl [] w).alloc _).alloc _).alloc _).alloc _).alloc _).alloc _).alloc _).alloc _).alloc _).alloc _).alloc _
theorem AppS.tch {TI TM TP TE : TypeId} {r : Nat} {V V' : World} {n0 n1 n2 : List UInt8} {v0 v1 v2 : Value} (h : AppS TI TM TP TE r V n0 n1 n2 v0 v1 v2) (t : Tch [] V V') : AppS TI TM TP TE r V' n0 n1 n2 v0 v1 v2 := by
  have k : ∀ i o, V.heap[i]? = some o → V'.heap[i]? = some o := fun i o hi => by rw [t.block i (heap_lt hi) (by simp)]; exact hi
  exact ⟨k _ _ h.hR, k _ _ h.hB, k _ _ h.hF, k _ _ h.hE, k _ _ h.hX, k _ _ h.hP1, k _ _ h.hP2, k _ _ h.hI, k _ _ h.hQ1, k _ _ h.hQ2, ownsRow_tch h.hM t (by simp)⟩
theorem AppS.set0 {TI TM TP TE : TypeId} {r : Nat} {V : World} {n0 n1 n2 : List UInt8} {v0 v1 v2 : Value} (h : AppS TI TM TP TE r V n0 n1 n2 v0 v1 v2) (u : Value) : AppS TI TM TP TE r (V.setCell ⟨r + 1 + 1 + 1 + 1 + 1 + 1 + 1 + 1 + 1 + 1, 3, none⟩ u) n0 n1 n2 u v1 v2 := by
  have k : ∀ i o, i ≠ r + 1 + 1 + 1 + 1 + 1 + 1 + 1 + 1 + 1 + 1 → V.heap[i]? = some o → (V.setCell ⟨r + 1 + 1 + 1 + 1 + 1 + 1 + 1 + 1 + 1 + 1, 3, none⟩ u).heap[i]? = some o := fun i o hi h => by rw [Below.heap_setCell _ _ _ _ hi]; exact h
  exact ⟨k _ _ (by omega) h.hR, k _ _ (by omega) h.hB, k _ _ (by omega) h.hF, k _ _ (by omega) h.hE, k _ _ (by omega) h.hX, k _ _ (by omega) h.hP1, k _ _ (by omega) h.hP2, k _ _ (by omega) h.hI, k _ _ (by omega) h.hQ1, k _ _ (by omega) h.hQ2, by simpa using (h.hM.stored 3 u).1⟩
theorem AppS.set1 {TI TM TP TE : TypeId} {r : Nat} {V : World} {n0 n1 n2 : List UInt8} {v0 v1 v2 : Value} (h : AppS TI TM TP TE r V n0 n1 n2 v0 v1 v2) (u : Value) : AppS TI TM TP TE r (V.setCell ⟨r + 1 + 1 + 1 + 1 + 1 + 1 + 1 + 1 + 1 + 1, 7, none⟩ u) n0 n1 n2 v0 u v2 := by
  have k : ∀ i o, i ≠ r + 1 + 1 + 1 + 1 + 1 + 1 + 1 + 1 + 1 + 1 → V.heap[i]? = some o → (V.setCell ⟨r + 1 + 1 + 1 + 1 + 1 + 1 + 1 + 1 + 1 + 1, 7, none⟩ u).heap[i]? = some o := fun i o hi h => by rw [Below.heap_setCell _ _ _ _ hi]; exact h
  exact ⟨k _ _ (by omega) h.hR, k _ _ (by omega) h.hB, k _ _ (by omega) h.hF, k _ _ (by omega) h.hE, k _ _ (by omega) h.hX, k _ _ (by omega) h.hP1, k _ _ (by omega) h.hP2, k _ _ (by omega) h.hI, k _ _ (by omega) h.hQ1, k _ _ (by omega) h.hQ2, by simpa using (h.hM.stored 7 u).1⟩
theorem AppS.set2 {TI TM TP TE : TypeId} {r : Nat} {V : World} {n0 n1 n2 : List UInt8} {v0 v1 v2 : Value} (h : AppS TI TM TP TE r V n0 n1 n2 v0 v1 v2) (u : Value) : AppS TI TM TP TE r (V.setCell ⟨r + 1 + 1 + 1 + 1 + 1 + 1 + 1 + 1 + 1 + 1, 11, none⟩ u) n0 n1 n2 v0 v1 u := by
  have k : ∀ i o, i ≠ r + 1 + 1 + 1 + 1 + 1 + 1 + 1 + 1 + 1 + 1 → V.heap[i]? = some o → (V.setCell ⟨r + 1 + 1 + 1 + 1 + 1 + 1 + 1 + 1 + 1 + 1, 11, none⟩ u).heap[i]? = some o := fun i o hi h => by rw [Below.heap_setCell _ _ _ _ hi]; exact h
  exact ⟨k _ _ (by omega) h.hR, k _ _ (by omega) h.hB, k _ _ (by omega) h.hF, k _ _ (by omega) h.hE, k _ _ (by omega) h.hX, k _ _ (by omega) h.hP1, k _ _ (by omega) h.hP2, k _ _ (by omega) h.hI, k _ _ (by omega) h.hQ1, k _ _ (by omega) h.hQ2, by simpa using (h.hM.stored 11 u).1⟩
theorem src_block {w : World} {L : List Nat} {g : Nat} {cs : Array Value} {T : TypeId} (h : w.heap[g]? = some (.cells cs T (0, 0))) (hg : g ∉ L) (n c : Nat) (hn : n ≤ c) (xs : List Value) (hx : ∀ (j : Nat) u, xs[j]? = some u → cs.toList[j]? = some u) : Src w L (.slice (some ⟨g, 0, none⟩) n c) n xs :=
  ⟨.inr ⟨_, _, rfl, hn, fun j u hj => ⟨hg, World.news_of_block h j u (hx j u hj)⟩⟩⟩
theorem AppS.iB {TI TM TP TE : TypeId} {r : Nat} {V : World} {n0 n1 n2 : List UInt8} {v0 v1 v2 : Value} {L : List Nat} (hL : ∀ i ∈ L, i < r) (h : AppS TI TM TP TE r V n0 n1 n2 v0 v1 v2) : RInts V (r :: L) (.slice (some ⟨r + 1, 0, none⟩) 4 4) [1, 2, 3, 4] := src_block h.hB (fun hx => by
    rcases List.mem_cons.1 hx with hx | hx
    · omega
    · have := hL _ hx; omega) _ _ (by decide) _ (fun j u hj => hj)
theorem AppS.iB2 {TI TM TP TE : TypeId} {r : Nat} {V : World} {n0 n1 n2 : List UInt8} {v0 v1 v2 : Value} {L : List Nat} (hL : ∀ i ∈ L, i < r) (h : AppS TI TM TP TE r V n0 n1 n2 v0 v1 v2) : RInts V (r :: L) (.slice (some ⟨r + 1, 0, none⟩) 2 4) [1, 2] := src_block h.hB (fun hx => by
    rcases List.mem_cons.1 hx with hx | hx
    · omega
    · have := hL _ hx; omega) _ _ (by decide) _ (fun j u hj => by rcases j with _ | _ | j <;> first | exact hj | simp [ints] at hj)
theorem AppS.iF {TI TM TP TE : TypeId} {r : Nat} {V : World} {n0 n1 n2 : List UInt8} {v0 v1 v2 : Value} {L : List Nat} (hL : ∀ i ∈ L, i < r) (h : AppS TI TM TP TE r V n0 n1 n2 v0 v1 v2) : RInts V (r :: L) (.slice (some ⟨r + 1 + 1, 0, none⟩) 4 4) [1, 2, 3, 4] := src_block h.hF (fun hx => by
    rcases List.mem_cons.1 hx with hx | hx
    · omega
    · have := hL _ hx; omega) _ _ (by decide) _ (fun j u hj => hj)
theorem AppS.iE {TI TM TP TE : TypeId} {r : Nat} {V : World} {n0 n1 n2 : List UInt8} {v0 v1 v2 : Value} {L : List Nat} (hL : ∀ i ∈ L, i < r) (h : AppS TI TM TP TE r V n0 n1 n2 v0 v1 v2) : RInts V (r :: L) (.slice (some ⟨r + 1 + 1 + 1, 0, none⟩) 2 2) [1, 2] := src_block h.hE (fun hx => by
    rcases List.mem_cons.1 hx with hx | hx
    · omega
    · have := hL _ hx; omega) _ _ (by decide) _ (fun j u hj => hj)
theorem AppS.iP1 {TI TM TP TE : TypeId} {r : Nat} {V : World} {n0 n1 n2 : List UInt8} {v0 v1 v2 : Value} {L : List Nat} (hL : ∀ i ∈ L, i < r) (h : AppS TI TM TP TE r V n0 n1 n2 v0 v1 v2) : RInts V (r :: L) (.slice (some ⟨r + 1 + 1 + 1 + 1 + 1, 0, none⟩) 2 2) [1, 2] := src_block h.hP1 (fun hx => by
    rcases List.mem_cons.1 hx with hx | hx
    · omega
    · have := hL _ hx; omega) _ _ (by decide) _ (fun j u hj => hj)
theorem AppS.iP2 {TI TM TP TE : TypeId} {r : Nat} {V : World} {n0 n1 n2 : List UInt8} {v0 v1 v2 : Value} {L : List Nat} (hL : ∀ i ∈ L, i < r) (h : AppS TI TM TP TE r V n0 n1 n2 v0 v1 v2) : RInts V (r :: L) (.slice (some ⟨r + 1 + 1 + 1 + 1 + 1 + 1, 0, none⟩) 2 2) [4, 3] := src_block h.hP2 (fun hx => by
    rcases List.mem_cons.1 hx with hx | hx
    · omega
    · have := hL _ hx; omega) _ _ (by decide) _ (fun j u hj => hj)
theorem AppS.iQ1 {TI TM TP TE : TypeId} {r : Nat} {V : World} {n0 n1 n2 : List UInt8} {v0 v1 v2 : Value} {L : List Nat} (hL : ∀ i ∈ L, i < r) (h : AppS TI TM TP TE r V n0 n1 n2 v0 v1 v2) : RInts V (r :: L) (.slice (some ⟨r + 1 + 1 + 1 + 1 + 1 + 1 + 1 + 1, 0, none⟩) 2 2) [1, 2] := src_block h.hQ1 (fun hx => by
    rcases List.mem_cons.1 hx with hx | hx
    · omega
    · have := hL _ hx; omega) _ _ (by decide) _ (fun j u hj => hj)
theorem AppS.iQ2 {TI TM TP TE : TypeId} {r : Nat} {V : World} {n0 n1 n2 : List UInt8} {v0 v1 v2 : Value} {L : List Nat} (hL : ∀ i ∈ L, i < r) (h : AppS TI TM TP TE r V n0 n1 n2 v0 v1 v2) : RInts V (r :: L) (.slice (some ⟨r + 1 + 1 + 1 + 1 + 1 + 1 + 1 + 1 + 1, 0, none⟩) 2 2) [4, 3] := src_block h.hQ2 (fun hx => by
    rcases List.mem_cons.1 hx with hx | hx
    · omega
    · have := hL _ hx; omega) _ _ (by decide) _ (fun j u hj => hj)
theorem AppS.imps {TI TM TP TE : TypeId} {r : Nat} {V : World} {n0 n1 n2 : List UInt8} {v0 v1 v2 : Value} {L : List Nat} (hL : ∀ i ∈ L, i < r) (h : AppS TI TM TP TE r V n0 n1 n2 v0 v1 v2) : RImps V (r :: L) (.slice (some ⟨r + 1 + 1 + 1 + 1 + 1 + 1 + 1, 0, none⟩) 2 2) [⟨n1, 0, [1, 2], 2⟩, ⟨n2, 1, [4, 3], 3⟩] := by
  refine ⟨⟨[[str n1, .int .i64 0, .slice (some ⟨r + 1 + 1 + 1 + 1 + 1, 0, none⟩) 2 2, .int .i64 2], [str n2, .int .i64 1, .slice (some ⟨r + 1 + 1 + 1 + 1 + 1 + 1, 0, none⟩) 2 2, .int .i64 3]], rfl, by simp, src_block h.hI (fun hx => by
    rcases List.mem_cons.1 hx with hx | hx
    · omega
    · have := hL _ hx; omega) _ _ (by decide) _ (fun j u hj => hj), fun k cs x hc hx => ?_⟩⟩
  rcases k with _ | _ | k
  · simp at hc hx; subst hc; subst hx; exact ⟨_, rfl, (AppS.iP1 hL h)⟩
  · simp at hc hx; subst hc; subst hx; exact ⟨_, rfl, (AppS.iP2 hL h)⟩
  · simp at hc
theorem AppS.mths {TI TM TP TE : TypeId} {r : Nat} {V : World} {n0 n1 n2 : List UInt8} {v0 v1 v2 : Value} {L : List Nat} (hL : ∀ i ∈ L, i < r) (h : AppS TI TM TP TE r V n0 n1 n2 v0 v1 v2) {c0 c1 c2 : List Ins} (hc0 : RCode V (r :: L) v0 c0) (hc1 : RCode V (r :: L) v1 c1) (hc2 : RCode V (r :: L) v2 c2) : RMths V (r :: L) (.slice (some ⟨r + 1 + 1 + 1 + 1 + 1 + 1 + 1 + 1 + 1 + 1, 0, none⟩) 3 3) [⟨[], 0, [1, 2, 3, 4], c0⟩, ⟨[1, 2], 2, [1, 2, 3, 4], c1⟩, ⟨[4, 3], 3, [1, 2], c2⟩] := by
  refine ⟨⟨[[.slice none 0 0, .int .i64 0, .slice (some ⟨r + 1, 0, none⟩) 4 4, v0], [.slice (some ⟨r + 1 + 1 + 1 + 1 + 1 + 1 + 1 + 1, 0, none⟩) 2 2, .int .i64 2, .slice (some ⟨r + 1, 0, none⟩) 4 4, v1], [.slice (some ⟨r + 1 + 1 + 1 + 1 + 1 + 1 + 1 + 1 + 1, 0, none⟩) 2 2, .int .i64 3, .slice (some ⟨r + 1, 0, none⟩) 2 4, v2]], rfl, by simp, src_of_owns h.hM _ (fun g hg hx => by
    simp [Value.ownBlock] at hg
    rcases List.mem_cons.1 hx with hx | hx
    · omega
    · have := hL _ hx; omega), fun k cs x hc hx => ?_⟩⟩
  rcases k with _ | _ | _ | k
  · simp at hc hx; subst hc; subst hx; exact ⟨_, _, _, rfl, ⟨.inl ⟨rfl, rfl, rfl⟩⟩, (AppS.iB hL h), hc0⟩
  · simp at hc hx; subst hc; subst hx; exact ⟨_, _, _, rfl, (AppS.iQ1 hL h), (AppS.iB hL h), hc1⟩
  · simp at hc hx; subst hc; subst hx; exact ⟨_, _, _, rfl, (AppS.iQ2 hL h), (AppS.iB2 hL h), hc2⟩
  · simp at hc
theorem AppS.img {TI TM TP TE : TypeId} {r : Nat} {V : World} {n0 n1 n2 : List UInt8} {v0 v1 v2 : Value} {L : List Nat} (hL : ∀ i ∈ L, i < r) (h : AppS TI TM TP TE r V n0 n1 n2 v0 v1 v2) {c0 c1 c2 : List Ins} (hc0 : RCode V (r :: L) v0 c0) (hc1 : RCode V (r :: L) v1 c1) (hc2 : RCode V (r :: L) v2 c2) : RImg V (r :: L) [str n0, .slice (some ⟨r + 1 + 1, 0, none⟩) 4 4, .slice (some ⟨r + 1 + 1 + 1 + 1 + 1 + 1 + 1, 0, none⟩) 2 2, .slice (some ⟨r + 1 + 1 + 1 + 1 + 1 + 1 + 1 + 1 + 1 + 1, 0, none⟩) 3 3, .slice (some ⟨r + 1 + 1 + 1, 0, none⟩) 2 2] ⟨n0, [1, 2, 3, 4], [⟨n1, 0, [1, 2], 2⟩, ⟨n2, 1, [4, 3], 3⟩], [⟨[], 0, [1, 2, 3, 4], c0⟩, ⟨[1, 2], 2, [1, 2, 3, 4], c1⟩, ⟨[4, 3], 3, [1, 2], c2⟩], [1, 2]⟩ :=
  ⟨_, _, _, _, rfl, (AppS.iF hL h), (AppS.imps hL h), (AppS.mths hL h hc0 hc1 hc2), (AppS.iE hL h)⟩
end Go.Tcn
namespace Go.Proofs.YteebapopeaafhaaGreatDoor
open Go.RowKit Go.Tcn
set_option linter.unusedVariables false
set_option linter.unusedSimpArgs false

set_option maxRecDepth 100000 in
set_option maxHeartbeats 4000000 in
theorem hand_Name (w : World) (k : Int) (hk : I6 k) : Calls Tryz.prog 27 #[.int .i64 k] w fun e w' => e = .returned (.string ⟨(nameOf k).toArray⟩) ∧ w = w' := by
  have h4 : k % 4 = 0 ∨ k % 4 = 1 ∨ k % 4 = 2 ∨ k % 4 = 3 := by omega
  have hP := fun w => hand_Pick k 4 hk (by omega) (by omega) w
  unfold nameOf
  rcases h4 with e4 | e4 | e4 | e4
  all_goals
    rw [e4] at hP ⊢
    clear e4
    go_enter Tryz.func27, Tryz.ntmps27
    go_wp2_with fail
    refine (hP _).mono ?_
    rintro e w1 ⟨rfl, rfl⟩
    have hix := fun i v hi hv => run_index_arr (P := Tryz.prog) (w := w) 48 9 4 #[.string ⟨#[97, 108, 112, 104, 97]⟩, .string ⟨#[98, 195, 169, 116, 97]⟩, .string ⟨#[103, 45, 49]⟩, .string ⟨#[100, 46, 195, 191]⟩] .i64 i v Tryz.underlying48 rfl rfl hi hv
    have h0 := hix 0 _ (by omega) rfl
    have h1 := hix 1 _ (by omega) rfl
    have h2 := hix 2 _ (by omega) rfl
    have h3 := hix 3 _ (by omega) rfl
    clear hix
    go_wp2_with fail
    go_ret
    exact ⟨rfl, rfl⟩
set_option maxRecDepth 100000 in
set_option maxHeartbeats 4000000 in
theorem hand_Applet0 (w : World) (hG : Bins w 2) (k : Int) (hk : I6 k) (L0 : List Nat) (hL0 : ∀ i ∈ L0, i < w.heap.size) : Calls Tryz.prog 9 #[.int .i64 k, .slice none 0 0] w fun e w' => ∃ (cs : Array Value) (c0 c1 c2 : List Ins), e = .returned (.agg cs) ∧ RImg w' L0 cs.toList (appI k 0 c0 c1 c2) ∧ CodeOk c0 ∧ CodeOk c1 ∧ CodeOk c2 ∧ Tch [] w w' := by
  have hk1 := @wrap64_I6 ⟨true, []⟩ (k + 1)
  have hk2 := @wrap64_I6 ⟨true, []⟩ (wrap64 (k + 1))
  have hP3 := fun w => hand_Pick 0 3 (by omega) (by omega) (by omega) w
  go_enter Tryz.func9, Tryz.ntmps9
  go_wp2_with fail
  refine (hand_Name _ k hk).mono ?_
  rintro e w1 ⟨rfl, rfl⟩
  go_wp2_with fail
  refine (hand_Name _ _ hk1).mono ?_
  rintro e w1 ⟨rfl, rfl⟩
  go_wp2_with fail
  refine (hP3 _).mono ?_
  rintro e w1 ⟨rfl, rfl⟩
  go_wp2_with fail
  refine (hand_Name _ _ hk2).mono ?_
  rintro e w1 ⟨rfl, rfl⟩
  obtain ⟨V, hV, hA, tV⟩ := AppS.start (TI := 30) (TM := 55) (TP := 51) (TE := 3) w (nameOf k) (nameOf (wrap64 (k + 1))) (nameOf (wrap64 (wrap64 (k + 1))))
  go_upto_region 5 with fail
  rw [← hV]
  clear hV hP3
  generalize hn2 : nameOf (wrap64 (wrap64 (k + 1))) = n2 at *
  generalize hn1 : nameOf (wrap64 (k + 1)) = n1 at *
  generalize hn0 : nameOf k = n0 at *
  go_wp2_with fail
  go_loopw [8] (fun i wz => ∃ (m : Nat) (v0 v1 v2 : Value) (c0 c1 c2 : List Ins), m ≤ 3 ∧ i = .int .i64 m ∧ AppS 30 55 51 3 w.heap.size wz n0 n1 n2 v0 v1 v2 ∧ RCode wz (w.heap.size :: (w.heap.size + 1 + 1 + 1 + 1 + 1 + 1 + 1 + 1 + 1 + 1) :: L0) v0 c0 ∧ RCode wz (w.heap.size :: (w.heap.size + 1 + 1 + 1 + 1 + 1 + 1 + 1 + 1 + 1 + 1) :: L0) v1 c1 ∧ RCode wz (w.heap.size :: (w.heap.size + 1 + 1 + 1 + 1 + 1 + 1 + 1 + 1 + 1 + 1) :: L0) v2 c2 ∧ (CodeOk c0 ∨ m ≤ 0) ∧ (CodeOk c1 ∨ m ≤ 1) ∧ (CodeOk c2 ∨ m ≤ 2) ∧ Tch [] w wz) (fun i _ => 3 - (intOf i).toNat)
  case atStart => exact ⟨0, _, _, _, [], [], [], by omega, rfl, hA, ⟨.inl ⟨rfl, rfl, rfl⟩⟩, ⟨.inl ⟨rfl, rfl, rfl⟩⟩, ⟨.inl ⟨rfl, rfl, rfl⟩⟩, .inr (by omega), .inr (by omega), .inr (by omega), tV⟩
  case round =>
    obtain ⟨m, v0, v1, v2, c0, c1, c2, hm, rfl, hS, hc0, hc1, hc2, hk0, hk1', hk2', ht⟩ := hrel
    clear hA tV
    by_cases hm3 : m < 3
    · have hms : m = 0 ∨ m = 1 ∨ m = 2 := by omega
      have hX := hS.hX
      have x2 : wr.drew.cell? ⟨w.heap.size + 1 + 1 + 1 + 1, 2, none⟩ = some (.slice (some ⟨w.heap.size + 1 + 1 + 1 + 1 + 1 + 1 + 1, 0, none⟩) 2 2) := (cell_of_row wr _ 2 _ _ _ hX).trans rfl
      have x3 : wr.drew.cell? ⟨w.heap.size + 1 + 1 + 1 + 1, 3, none⟩ = some (.slice (some ⟨w.heap.size + 1 + 1 + 1 + 1 + 1 + 1 + 1 + 1 + 1 + 1, 0, none⟩) 3 3) := (cell_of_row wr _ 3 _ _ _ hX).trans rfl
      have hD := hS.tch (Tch.refl [] wr).drew
      have tD : Tch [] w wr.drew := ht.drew
      have hmono : ∀ v c, RCode wr (w.heap.size :: (w.heap.size + 1 + 1 + 1 + 1 + 1 + 1 + 1 + 1 + 1 + 1) :: L0) v c → RCode wr.drew (w.heap.size :: (w.heap.size + 1 + 1 + 1 + 1 + 1 + 1 + 1 + 1 + 1 + 1) :: L0) v c := fun v c h => h.tch (Tch.refl [] wr).drew (by simp)
      have hd0 := hmono _ _ hc0
      have hd1 := hmono _ _ hc1
      have hd2 := hmono _ _ hc2
      have hm1 : ∀ v c, RCode wr.drew (w.heap.size :: (w.heap.size + 1 + 1 + 1 + 1 + 1 + 1 + 1 + 1 + 1 + 1) :: L0) v c → RCode wr.drew (w.heap.size :: L0) v c := fun v c h => Src.mono h (fun i hi _ => by
        rcases List.mem_cons.1 hi with hi | hi
        · exact hi ▸ List.mem_cons_self
        · exact List.mem_cons_of_mem _ (List.mem_cons_of_mem _ hi))
      have hMths := AppS.mths hL0 hD (hm1 _ _ hd0) (hm1 _ _ hd1) (hm1 _ _ hd2)
      have hMths' : RMths wr.drew [] (.slice (some ⟨w.heap.size + 1 + 1 + 1 + 1 + 1 + 1 + 1 + 1 + 1 + 1, 0, none⟩) 3 3) _ := hMths.thin
      have hImps' : RImps wr.drew [] (.slice (some ⟨w.heap.size + 1 + 1 + 1 + 1 + 1 + 1 + 1, 0, none⟩) 2 2) _ := (AppS.imps hL0 hD).thin
      have hRw : Raws wr.drew (.slice none 0 0) [] := ⟨⟨none, 0, rfl, by simp, fun k x hk => by simp at hk⟩, by simp⟩
      have hfzM : ∀ j, wr.drew.frozen? ⟨w.heap.size + 1 + 1 + 1 + 1 + 1 + 1 + 1 + 1 + 1 + 1, j, none⟩ = false := fun j => World.ownsRow.frozenAt hD.hM j
      have hcM : ∀ j, j < 12 → wr.drew.cell? ⟨w.heap.size + 1 + 1 + 1 + 1 + 1 + 1 + 1 + 1 + 1 + 1, j, none⟩ = _ := fun j hj => World.ownsRow.cellAt hD.hM j hj
      have hzw := ht.size
      clear hmono hm1 hX hMths
      rcases hms with rfl | rfl | rfl
      · have hC := hand_Code0 wr.drew (hG.tch tD) (.slice none 0 0) hRw ⟨[], 0, [1, 2, 3, 4], c0⟩ (.slice none 0 0) (.slice (some ⟨w.heap.size + 1, 0, none⟩) 4 4) v0 (⟨.inl ⟨rfl, rfl, rfl⟩⟩) ((AppS.iB hL0 hD).thin) (by simp) (by simp) (by simp) (by simp) (by simp) (.slice (some ⟨w.heap.size + 1 + 1 + 1 + 1 + 1 + 1 + 1 + 1 + 1 + 1, 0, none⟩) 3 3) _ hMths' (by simp) (by simp) (.slice (some ⟨w.heap.size + 1 + 1 + 1 + 1 + 1 + 1 + 1, 0, none⟩) 2 2) _ hImps' (by simp) (by simp)
        have y0 := hcM 0 (by omega)
        have y1 := hcM 1 (by omega)
        have y2 := hcM 2 (by omega)
        have y3 := hcM 3 (by omega)
        have fz := hfzM 3
        simp at y0 y1 y2 y3
        clear hcM hfzM
        go_upto_region 12 with fail
        refine wp_region_held_drew (S := fun w' => w'.cell? ⟨w.heap.size + 1 + 1 + 1 + 1, 2, none⟩ = some (.slice (some ⟨w.heap.size + 1 + 1 + 1 + 1 + 1 + 1 + 1, 0, none⟩) 2 2) ∧ w'.cell? ⟨w.heap.size + 1 + 1 + 1 + 1, 3, none⟩ = some (.slice (some ⟨w.heap.size + 1 + 1 + 1 + 1 + 1 + 1 + 1 + 1 + 1 + 1, 0, none⟩) 3 3)) (by kernel_rfl) ⟨x2, x3⟩ (fun hHeld => ?_)
        refine wpAnyH_take (i := 0) (v := ?_) rfl (by kernel_rfl) (by kernel_rfl) (by kernel_rfl) (fun _ _ _ h => h) (Or.inl ⟨by rfl, ?_⟩) (by assumption) ?_
        rotate_left
        · (intro w hSw; (try dsimp only at hSw); go_simp; try with_reducible rfl)
        try simp only [Act.put, List.setIfInBounds_toArray, List.set_cons_zero, List.set_cons_succ]
        refine wpAnyH_take (i := 1) (v := ?_) rfl (by kernel_rfl) (by kernel_rfl) (by kernel_rfl) (fun _ _ _ h => h) (Or.inl ⟨by rfl, ?_⟩) (by assumption) ?_
        rotate_left
        · (intro w hSw; (try dsimp only at hSw); go_simp; try with_reducible rfl)
        try simp only [Act.put, List.setIfInBounds_toArray, List.set_cons_zero, List.set_cons_succ]
        refine wpAnyH_take (i := 2) (v := ?_) rfl (by kernel_rfl) (by kernel_rfl) (by kernel_rfl) (fun _ _ _ h => h) (Or.inl ⟨by rfl, ?_⟩) (by assumption) ?_
        rotate_left
        · (intro w hSw; (try dsimp only at hSw); go_simp; try with_reducible rfl)
        try simp only [Act.put, List.setIfInBounds_toArray, List.set_cons_zero, List.set_cons_succ]
        refine wpAnyH_take (i := 3) (v := ?_) rfl (by kernel_rfl) (by kernel_rfl) (by kernel_rfl) (fun _ _ _ h => h) (Or.inl ⟨by rfl, ?_⟩) (by assumption) ?_
        rotate_left
        · (intro w hSw; (try dsimp only at hSw); go_simp; try with_reducible rfl)
        try simp only [Act.put, List.setIfInBounds_toArray, List.set_cons_zero, List.set_cons_succ]
        refine wpAnyH_take (i := 4) (v := ?_) rfl (by kernel_rfl) (by kernel_rfl) (by kernel_rfl) (fun _ _ _ h => h) (Or.inl ⟨by rfl, ?_⟩) (by assumption) ?_
        rotate_left
        · (intro w hSw; (try dsimp only at hSw); go_simp; try with_reducible rfl)
        try simp only [Act.put, List.setIfInBounds_toArray, List.set_cons_zero, List.set_cons_succ]
        refine wpAnyH_take (i := 5) (v := ?_) rfl (by kernel_rfl) (by kernel_rfl) (by kernel_rfl) (fun _ _ _ h => h) (Or.inl ⟨by rfl, ?_⟩) (by assumption) ?_
        rotate_left
        · (intro w hSw; (try dsimp only at hSw); go_simp; try with_reducible rfl)
        try simp only [Act.put, List.setIfInBounds_toArray, List.set_cons_zero, List.set_cons_succ]
        refine wpAnyH_take (i := 6) (v := ?_) rfl (by kernel_rfl) (by kernel_rfl) (by kernel_rfl) (fun _ _ _ h => h) (Or.inl ⟨by rfl, ?_⟩) (by assumption) ?_
        rotate_left
        · (intro w hSw; (try dsimp only at hSw); go_simp; try with_reducible rfl)
        try simp only [Act.put, List.setIfInBounds_toArray, List.set_cons_zero, List.set_cons_succ]
        refine wpAnyH_take (i := 7) (v := ?_) rfl (by kernel_rfl) (by kernel_rfl) (by kernel_rfl) (fun _ _ _ h => h) (Or.inl ⟨by rfl, ?_⟩) (by assumption) ?_
        rotate_left
        · (intro w hSw; (try dsimp only at hSw); go_simp; try with_reducible rfl)
        try simp only [Act.put, List.setIfInBounds_toArray, List.set_cons_zero, List.set_cons_succ]
        refine wpAnyH_take (i := 9) (v := ?_) rfl (by kernel_rfl) (by kernel_rfl) (by kernel_rfl) (fun _ _ _ h => h) (Or.inl ⟨by rfl, ?_⟩) (by assumption) ?_
        rotate_left
        · (intro w hSw; (try dsimp only at hSw); go_simp; try with_reducible rfl)
        try simp only [Act.put, List.setIfInBounds_toArray, List.set_cons_zero, List.set_cons_succ]
        refine wpAnyH_take (i := 10) (v := ?_) rfl (by kernel_rfl) (by kernel_rfl) (by kernel_rfl) (fun _ _ _ h => h) (Or.inl ⟨by rfl, ?_⟩) (by assumption) ?_
        rotate_left
        · (intro w hSw; (try dsimp only at hSw); go_simp; try with_reducible rfl)
        try simp only [Act.put, List.setIfInBounds_toArray, List.set_cons_zero, List.set_cons_succ]
        refine wpAnyH_take (i := 11) (v := ?_) rfl (by kernel_rfl) (by kernel_rfl) (by kernel_rfl) (fun _ _ _ h => h) (Or.inl ⟨by rfl, ?_⟩) (by assumption) ?_
        rotate_left
        · (intro w hSw; (try dsimp only at hSw); go_simp; try with_reducible rfl)
        try simp only [Act.put, List.setIfInBounds_toArray, List.set_cons_zero, List.set_cons_succ]
        refine wpAnyH_take (i := 12) (v := ?_) rfl (by kernel_rfl) (by kernel_rfl) (by kernel_rfl) (fun _ _ _ h => h) (Or.inl ⟨by rfl, ?_⟩) (by assumption) ?_
        rotate_left
        · (intro w hSw; (try dsimp only at hSw); go_simp; try with_reducible rfl)
        try simp only [Act.put, List.setIfInBounds_toArray, List.set_cons_zero, List.set_cons_succ]
        refine wpAnyH_ready (rs := [8]) (by kernel_rfl) (by simp) ?_
        refine AllReadyH.cons rfl (fun K hK => ?_) AllReadyH.nil
        go_simp
        refine hK.out _ _ (⟨x2, x3⟩) (fun hHeld => ?_)
        clear hK K
        try simp only [Act.put, List.setIfInBounds_toArray, List.set_cons_zero, List.set_cons_succ]
        refine wpAnyH_ready (rs := [13]) (by kernel_rfl) (by simp) ?_
        refine AllReadyH.cons rfl (fun K hK => ?_) AllReadyH.nil
        go_simp
        go_at_call 28
        refine hC.mono ?_
        rintro e w5 ⟨cN, aoN, capN, rfl, hoN, hfN, hrN, hlN1, hlN2, tN⟩
        have y3n := (show w5.cell? ⟨w.heap.size + 1 + 1 + 1 + 1 + 1 + 1 + 1 + 1 + 1 + 1, 3, none⟩ = some v0 by rw [tN.cell (cell_lt y3) (by simp)]; exact y3)
        have fzn := (show w5.frozen? ⟨w.heap.size + 1 + 1 + 1 + 1 + 1 + 1 + 1 + 1 + 1 + 1, 3, none⟩ = false by rw [tN.frozen (cell_lt y3) (by simp)]; exact fz)
        have x2n := (show w5.cell? ⟨w.heap.size + 1 + 1 + 1 + 1, 2, none⟩ = some (.slice (some ⟨w.heap.size + 1 + 1 + 1 + 1 + 1 + 1 + 1, 0, none⟩) 2 2) by rw [tN.cell (cell_lt x2) (by simp)]; exact x2)
        have x3n := (show w5.cell? ⟨w.heap.size + 1 + 1 + 1 + 1, 3, none⟩ = some (.slice (some ⟨w.heap.size + 1 + 1 + 1 + 1 + 1 + 1 + 1 + 1 + 1 + 1, 0, none⟩) 3 3) by rw [tN.cell (cell_lt x3) (by simp)]; exact x3)
        have tS := (Tch.refl [w.heap.size + 1 + 1 + 1 + 1 + 1 + 1 + 1 + 1 + 1 + 1] w5).setCell (p := ⟨w.heap.size + 1 + 1 + 1 + 1 + 1 + 1 + 1 + 1 + 1 + 1, 3, none⟩) (.inl (by simp)) (.slice aoN cN.length capN)
        have x2s := (tS.cell (cell_lt x2n) (by simp)).trans x2n
        have x3s := (tS.cell (cell_lt x3n) (by simp)).trans x3n
        refine hK.out _ _ (⟨x2n, x3n⟩) (fun hHeld => ?_)
        clear hK K
        try simp only [Act.put, List.setIfInBounds_toArray, List.set_cons_zero, List.set_cons_succ]
        refine wpAnyH_take (i := 14) (v := ?_) rfl (by kernel_rfl) (by kernel_rfl) (by kernel_rfl) (fun _ _ _ h => h) (Or.inl ⟨by rfl, ?_⟩) (by assumption) ?_
        rotate_left
        · (intro w hSw; (try dsimp only at hSw); go_simp; try with_reducible rfl)
        try simp only [Act.put, List.setIfInBounds_toArray, List.set_cons_zero, List.set_cons_succ]
        refine wpAnyH_take (i := 15) (v := ?_) rfl (by kernel_rfl) (by kernel_rfl) (by kernel_rfl) (fun _ _ _ h => h) (Or.inl ⟨by rfl, ?_⟩) (by assumption) ?_
        rotate_left
        · (intro w hSw; (try dsimp only at hSw); go_simp; try with_reducible rfl)
        try simp only [Act.put, List.setIfInBounds_toArray, List.set_cons_zero, List.set_cons_succ]
        refine wpAnyH_ready (rs := [16]) (by kernel_rfl) (by simp) ?_
        refine AllReadyH.cons rfl (fun K hK => ?_) AllReadyH.nil
        go_simp
        refine hK.out _ _ (⟨x2s, x3s⟩) (fun hHeld => ?_)
        clear hK K
        try simp only [Act.put, List.setIfInBounds_toArray, List.set_cons_zero, List.set_cons_succ]
        refine wpAnyH_done (by kernel_rfl) ?_ _
        go_wp2_with fail
        have hlt := (World.ownsRow.lt hD.hM (w.heap.size + 1 + 1 + 1 + 1 + 1 + 1 + 1 + 1 + 1 + 1) rfl).2
        have hnew := (src_of_owns hoN (w.heap.size :: (w.heap.size + 1 + 1 + 1 + 1 + 1 + 1 + 1 + 1 + 1 + 1) :: L0) (fun g hg hx => by
          have := hfN g hg
          rcases List.mem_cons.1 hx with hx | hx
          · omega
          · rcases List.mem_cons.1 hx with hx | hx
            · omega
            · have := hL0 _ hx
              have hz9 : w.heap.size ≤ wr.drew.heap.size := hzw
              omega)).tch tS (fun i hi _ => by rw [List.mem_singleton] at hi; rw [hi]; exact List.mem_cons_of_mem _ List.mem_cons_self)
        go_roundw
        case rel => exact ⟨1, .slice aoN cN.length capN, v1, v2, cN, c1, c2, by omega, by first | rfl | go_num, (hD.tch tN).set0 _, hnew, (hd1.tch tN (by simp)).tch tS (fun i hi _ => by rw [List.mem_singleton] at hi; rw [hi]; exact List.mem_cons_of_mem _ List.mem_cons_self), (hd2.tch tN (by simp)).tch tS (fun i hi _ => by rw [List.mem_singleton] at hi; rw [hi]; exact List.mem_cons_of_mem _ List.mem_cons_self), .inl ⟨hrN, hlN1, hlN2⟩, hk1'.elim .inl (fun h => .inr (by omega)), hk2'.elim .inl (fun h => .inr (by omega)), (tD.then tN).setCell (.inr (by simp; omega)) _⟩
        case measure => simp [intOf]
      · have hC := hand_Code0 wr.drew (hG.tch tD) (.slice none 0 0) hRw ⟨[1, 2], 2, [1, 2, 3, 4], c1⟩ (.slice (some ⟨w.heap.size + 1 + 1 + 1 + 1 + 1 + 1 + 1 + 1, 0, none⟩) 2 2) (.slice (some ⟨w.heap.size + 1, 0, none⟩) 4 4) v1 ((AppS.iQ1 hL0 hD).thin) ((AppS.iB hL0 hD).thin) (by simp) (by simp) (by simp) (by simp) (by simp) (.slice (some ⟨w.heap.size + 1 + 1 + 1 + 1 + 1 + 1 + 1 + 1 + 1 + 1, 0, none⟩) 3 3) _ hMths' (by simp) (by simp) (.slice (some ⟨w.heap.size + 1 + 1 + 1 + 1 + 1 + 1 + 1, 0, none⟩) 2 2) _ hImps' (by simp) (by simp)
        have y0 := hcM 4 (by omega)
        have y1 := hcM 5 (by omega)
        have y2 := hcM 6 (by omega)
        have y3 := hcM 7 (by omega)
        have fz := hfzM 7
        simp at y0 y1 y2 y3
        clear hcM hfzM
        go_upto_region 12 with fail
        refine wp_region_held_drew (S := fun w' => w'.cell? ⟨w.heap.size + 1 + 1 + 1 + 1, 2, none⟩ = some (.slice (some ⟨w.heap.size + 1 + 1 + 1 + 1 + 1 + 1 + 1, 0, none⟩) 2 2) ∧ w'.cell? ⟨w.heap.size + 1 + 1 + 1 + 1, 3, none⟩ = some (.slice (some ⟨w.heap.size + 1 + 1 + 1 + 1 + 1 + 1 + 1 + 1 + 1 + 1, 0, none⟩) 3 3)) (by kernel_rfl) ⟨x2, x3⟩ (fun hHeld => ?_)
        refine wpAnyH_take (i := 0) (v := ?_) rfl (by kernel_rfl) (by kernel_rfl) (by kernel_rfl) (fun _ _ _ h => h) (Or.inl ⟨by rfl, ?_⟩) (by assumption) ?_
        rotate_left
        · (intro w hSw; (try dsimp only at hSw); go_simp; try with_reducible rfl)
        try simp only [Act.put, List.setIfInBounds_toArray, List.set_cons_zero, List.set_cons_succ]
        refine wpAnyH_take (i := 1) (v := ?_) rfl (by kernel_rfl) (by kernel_rfl) (by kernel_rfl) (fun _ _ _ h => h) (Or.inl ⟨by rfl, ?_⟩) (by assumption) ?_
        rotate_left
        · (intro w hSw; (try dsimp only at hSw); go_simp; try with_reducible rfl)
        try simp only [Act.put, List.setIfInBounds_toArray, List.set_cons_zero, List.set_cons_succ]
        refine wpAnyH_take (i := 2) (v := ?_) rfl (by kernel_rfl) (by kernel_rfl) (by kernel_rfl) (fun _ _ _ h => h) (Or.inl ⟨by rfl, ?_⟩) (by assumption) ?_
        rotate_left
        · (intro w hSw; (try dsimp only at hSw); go_simp; try with_reducible rfl)
        try simp only [Act.put, List.setIfInBounds_toArray, List.set_cons_zero, List.set_cons_succ]
        refine wpAnyH_take (i := 3) (v := ?_) rfl (by kernel_rfl) (by kernel_rfl) (by kernel_rfl) (fun _ _ _ h => h) (Or.inl ⟨by rfl, ?_⟩) (by assumption) ?_
        rotate_left
        · (intro w hSw; (try dsimp only at hSw); go_simp; try with_reducible rfl)
        try simp only [Act.put, List.setIfInBounds_toArray, List.set_cons_zero, List.set_cons_succ]
        refine wpAnyH_take (i := 4) (v := ?_) rfl (by kernel_rfl) (by kernel_rfl) (by kernel_rfl) (fun _ _ _ h => h) (Or.inl ⟨by rfl, ?_⟩) (by assumption) ?_
        rotate_left
        · (intro w hSw; (try dsimp only at hSw); go_simp; try with_reducible rfl)
        try simp only [Act.put, List.setIfInBounds_toArray, List.set_cons_zero, List.set_cons_succ]
        refine wpAnyH_take (i := 5) (v := ?_) rfl (by kernel_rfl) (by kernel_rfl) (by kernel_rfl) (fun _ _ _ h => h) (Or.inl ⟨by rfl, ?_⟩) (by assumption) ?_
        rotate_left
        · (intro w hSw; (try dsimp only at hSw); go_simp; try with_reducible rfl)
        try simp only [Act.put, List.setIfInBounds_toArray, List.set_cons_zero, List.set_cons_succ]
        refine wpAnyH_take (i := 6) (v := ?_) rfl (by kernel_rfl) (by kernel_rfl) (by kernel_rfl) (fun _ _ _ h => h) (Or.inl ⟨by rfl, ?_⟩) (by assumption) ?_
        rotate_left
        · (intro w hSw; (try dsimp only at hSw); go_simp; try with_reducible rfl)
        try simp only [Act.put, List.setIfInBounds_toArray, List.set_cons_zero, List.set_cons_succ]
        refine wpAnyH_take (i := 7) (v := ?_) rfl (by kernel_rfl) (by kernel_rfl) (by kernel_rfl) (fun _ _ _ h => h) (Or.inl ⟨by rfl, ?_⟩) (by assumption) ?_
        rotate_left
        · (intro w hSw; (try dsimp only at hSw); go_simp; try with_reducible rfl)
        try simp only [Act.put, List.setIfInBounds_toArray, List.set_cons_zero, List.set_cons_succ]
        refine wpAnyH_take (i := 9) (v := ?_) rfl (by kernel_rfl) (by kernel_rfl) (by kernel_rfl) (fun _ _ _ h => h) (Or.inl ⟨by rfl, ?_⟩) (by assumption) ?_
        rotate_left
        · (intro w hSw; (try dsimp only at hSw); go_simp; try with_reducible rfl)
        try simp only [Act.put, List.setIfInBounds_toArray, List.set_cons_zero, List.set_cons_succ]
        refine wpAnyH_take (i := 10) (v := ?_) rfl (by kernel_rfl) (by kernel_rfl) (by kernel_rfl) (fun _ _ _ h => h) (Or.inl ⟨by rfl, ?_⟩) (by assumption) ?_
        rotate_left
        · (intro w hSw; (try dsimp only at hSw); go_simp; try with_reducible rfl)
        try simp only [Act.put, List.setIfInBounds_toArray, List.set_cons_zero, List.set_cons_succ]
        refine wpAnyH_take (i := 11) (v := ?_) rfl (by kernel_rfl) (by kernel_rfl) (by kernel_rfl) (fun _ _ _ h => h) (Or.inl ⟨by rfl, ?_⟩) (by assumption) ?_
        rotate_left
        · (intro w hSw; (try dsimp only at hSw); go_simp; try with_reducible rfl)
        try simp only [Act.put, List.setIfInBounds_toArray, List.set_cons_zero, List.set_cons_succ]
        refine wpAnyH_take (i := 12) (v := ?_) rfl (by kernel_rfl) (by kernel_rfl) (by kernel_rfl) (fun _ _ _ h => h) (Or.inl ⟨by rfl, ?_⟩) (by assumption) ?_
        rotate_left
        · (intro w hSw; (try dsimp only at hSw); go_simp; try with_reducible rfl)
        try simp only [Act.put, List.setIfInBounds_toArray, List.set_cons_zero, List.set_cons_succ]
        refine wpAnyH_ready (rs := [8]) (by kernel_rfl) (by simp) ?_
        refine AllReadyH.cons rfl (fun K hK => ?_) AllReadyH.nil
        go_simp
        refine hK.out _ _ (⟨x2, x3⟩) (fun hHeld => ?_)
        clear hK K
        try simp only [Act.put, List.setIfInBounds_toArray, List.set_cons_zero, List.set_cons_succ]
        refine wpAnyH_ready (rs := [13]) (by kernel_rfl) (by simp) ?_
        refine AllReadyH.cons rfl (fun K hK => ?_) AllReadyH.nil
        go_simp
        go_at_call 28
        refine hC.mono ?_
        rintro e w5 ⟨cN, aoN, capN, rfl, hoN, hfN, hrN, hlN1, hlN2, tN⟩
        have y3n := (show w5.cell? ⟨w.heap.size + 1 + 1 + 1 + 1 + 1 + 1 + 1 + 1 + 1 + 1, 7, none⟩ = some v1 by rw [tN.cell (cell_lt y3) (by simp)]; exact y3)
        have fzn := (show w5.frozen? ⟨w.heap.size + 1 + 1 + 1 + 1 + 1 + 1 + 1 + 1 + 1 + 1, 7, none⟩ = false by rw [tN.frozen (cell_lt y3) (by simp)]; exact fz)
        have x2n := (show w5.cell? ⟨w.heap.size + 1 + 1 + 1 + 1, 2, none⟩ = some (.slice (some ⟨w.heap.size + 1 + 1 + 1 + 1 + 1 + 1 + 1, 0, none⟩) 2 2) by rw [tN.cell (cell_lt x2) (by simp)]; exact x2)
        have x3n := (show w5.cell? ⟨w.heap.size + 1 + 1 + 1 + 1, 3, none⟩ = some (.slice (some ⟨w.heap.size + 1 + 1 + 1 + 1 + 1 + 1 + 1 + 1 + 1 + 1, 0, none⟩) 3 3) by rw [tN.cell (cell_lt x3) (by simp)]; exact x3)
        have tS := (Tch.refl [w.heap.size + 1 + 1 + 1 + 1 + 1 + 1 + 1 + 1 + 1 + 1] w5).setCell (p := ⟨w.heap.size + 1 + 1 + 1 + 1 + 1 + 1 + 1 + 1 + 1 + 1, 7, none⟩) (.inl (by simp)) (.slice aoN cN.length capN)
        have x2s := (tS.cell (cell_lt x2n) (by simp)).trans x2n
        have x3s := (tS.cell (cell_lt x3n) (by simp)).trans x3n
        refine hK.out _ _ (⟨x2n, x3n⟩) (fun hHeld => ?_)
        clear hK K
        try simp only [Act.put, List.setIfInBounds_toArray, List.set_cons_zero, List.set_cons_succ]
        refine wpAnyH_take (i := 14) (v := ?_) rfl (by kernel_rfl) (by kernel_rfl) (by kernel_rfl) (fun _ _ _ h => h) (Or.inl ⟨by rfl, ?_⟩) (by assumption) ?_
        rotate_left
        · (intro w hSw; (try dsimp only at hSw); go_simp; try with_reducible rfl)
        try simp only [Act.put, List.setIfInBounds_toArray, List.set_cons_zero, List.set_cons_succ]
        refine wpAnyH_take (i := 15) (v := ?_) rfl (by kernel_rfl) (by kernel_rfl) (by kernel_rfl) (fun _ _ _ h => h) (Or.inl ⟨by rfl, ?_⟩) (by assumption) ?_
        rotate_left
        · (intro w hSw; (try dsimp only at hSw); go_simp; try with_reducible rfl)
        try simp only [Act.put, List.setIfInBounds_toArray, List.set_cons_zero, List.set_cons_succ]
        refine wpAnyH_ready (rs := [16]) (by kernel_rfl) (by simp) ?_
        refine AllReadyH.cons rfl (fun K hK => ?_) AllReadyH.nil
        go_simp
        refine hK.out _ _ (⟨x2s, x3s⟩) (fun hHeld => ?_)
        clear hK K
        try simp only [Act.put, List.setIfInBounds_toArray, List.set_cons_zero, List.set_cons_succ]
        refine wpAnyH_done (by kernel_rfl) ?_ _
        go_wp2_with fail
        have hlt := (World.ownsRow.lt hD.hM (w.heap.size + 1 + 1 + 1 + 1 + 1 + 1 + 1 + 1 + 1 + 1) rfl).2
        have hnew := (src_of_owns hoN (w.heap.size :: (w.heap.size + 1 + 1 + 1 + 1 + 1 + 1 + 1 + 1 + 1 + 1) :: L0) (fun g hg hx => by
          have := hfN g hg
          rcases List.mem_cons.1 hx with hx | hx
          · omega
          · rcases List.mem_cons.1 hx with hx | hx
            · omega
            · have := hL0 _ hx
              have hz9 : w.heap.size ≤ wr.drew.heap.size := hzw
              omega)).tch tS (fun i hi _ => by rw [List.mem_singleton] at hi; rw [hi]; exact List.mem_cons_of_mem _ List.mem_cons_self)
        go_roundw
        case rel => exact ⟨2, v0, .slice aoN cN.length capN, v2, c0, cN, c2, by omega, by first | rfl | go_num, (hD.tch tN).set1 _, (hd0.tch tN (by simp)).tch tS (fun i hi _ => by rw [List.mem_singleton] at hi; rw [hi]; exact List.mem_cons_of_mem _ List.mem_cons_self), hnew, (hd2.tch tN (by simp)).tch tS (fun i hi _ => by rw [List.mem_singleton] at hi; rw [hi]; exact List.mem_cons_of_mem _ List.mem_cons_self), hk0.elim .inl (fun h => .inr (by omega)), .inl ⟨hrN, hlN1, hlN2⟩, hk2'.elim .inl (fun h => .inr (by omega)), (tD.then tN).setCell (.inr (by simp; omega)) _⟩
        case measure => simp [intOf]
      · have hC := hand_Code0 wr.drew (hG.tch tD) (.slice none 0 0) hRw ⟨[4, 3], 3, [1, 2], c2⟩ (.slice (some ⟨w.heap.size + 1 + 1 + 1 + 1 + 1 + 1 + 1 + 1 + 1, 0, none⟩) 2 2) (.slice (some ⟨w.heap.size + 1, 0, none⟩) 2 4) v2 ((AppS.iQ2 hL0 hD).thin) ((AppS.iB2 hL0 hD).thin) (by simp) (by simp) (by simp) (by simp) (by simp) (.slice (some ⟨w.heap.size + 1 + 1 + 1 + 1 + 1 + 1 + 1 + 1 + 1 + 1, 0, none⟩) 3 3) _ hMths' (by simp) (by simp) (.slice (some ⟨w.heap.size + 1 + 1 + 1 + 1 + 1 + 1 + 1, 0, none⟩) 2 2) _ hImps' (by simp) (by simp)
        have y0 := hcM 8 (by omega)
        have y1 := hcM 9 (by omega)
        have y2 := hcM 10 (by omega)
        have y3 := hcM 11 (by omega)
        have fz := hfzM 11
        simp at y0 y1 y2 y3
        clear hcM hfzM
        go_upto_region 12 with fail
        refine wp_region_held_drew (S := fun w' => w'.cell? ⟨w.heap.size + 1 + 1 + 1 + 1, 2, none⟩ = some (.slice (some ⟨w.heap.size + 1 + 1 + 1 + 1 + 1 + 1 + 1, 0, none⟩) 2 2) ∧ w'.cell? ⟨w.heap.size + 1 + 1 + 1 + 1, 3, none⟩ = some (.slice (some ⟨w.heap.size + 1 + 1 + 1 + 1 + 1 + 1 + 1 + 1 + 1 + 1, 0, none⟩) 3 3)) (by kernel_rfl) ⟨x2, x3⟩ (fun hHeld => ?_)
        refine wpAnyH_take (i := 0) (v := ?_) rfl (by kernel_rfl) (by kernel_rfl) (by kernel_rfl) (fun _ _ _ h => h) (Or.inl ⟨by rfl, ?_⟩) (by assumption) ?_
        rotate_left
        · (intro w hSw; (try dsimp only at hSw); go_simp; try with_reducible rfl)
        try simp only [Act.put, List.setIfInBounds_toArray, List.set_cons_zero, List.set_cons_succ]
        refine wpAnyH_take (i := 1) (v := ?_) rfl (by kernel_rfl) (by kernel_rfl) (by kernel_rfl) (fun _ _ _ h => h) (Or.inl ⟨by rfl, ?_⟩) (by assumption) ?_
        rotate_left
        · (intro w hSw; (try dsimp only at hSw); go_simp; try with_reducible rfl)
        try simp only [Act.put, List.setIfInBounds_toArray, List.set_cons_zero, List.set_cons_succ]
        refine wpAnyH_take (i := 2) (v := ?_) rfl (by kernel_rfl) (by kernel_rfl) (by kernel_rfl) (fun _ _ _ h => h) (Or.inl ⟨by rfl, ?_⟩) (by assumption) ?_
        rotate_left
        · (intro w hSw; (try dsimp only at hSw); go_simp; try with_reducible rfl)
        try simp only [Act.put, List.setIfInBounds_toArray, List.set_cons_zero, List.set_cons_succ]
        refine wpAnyH_take (i := 3) (v := ?_) rfl (by kernel_rfl) (by kernel_rfl) (by kernel_rfl) (fun _ _ _ h => h) (Or.inl ⟨by rfl, ?_⟩) (by assumption) ?_
        rotate_left
        · (intro w hSw; (try dsimp only at hSw); go_simp; try with_reducible rfl)
        try simp only [Act.put, List.setIfInBounds_toArray, List.set_cons_zero, List.set_cons_succ]
        refine wpAnyH_take (i := 4) (v := ?_) rfl (by kernel_rfl) (by kernel_rfl) (by kernel_rfl) (fun _ _ _ h => h) (Or.inl ⟨by rfl, ?_⟩) (by assumption) ?_
        rotate_left
        · (intro w hSw; (try dsimp only at hSw); go_simp; try with_reducible rfl)
        try simp only [Act.put, List.setIfInBounds_toArray, List.set_cons_zero, List.set_cons_succ]
        refine wpAnyH_take (i := 5) (v := ?_) rfl (by kernel_rfl) (by kernel_rfl) (by kernel_rfl) (fun _ _ _ h => h) (Or.inl ⟨by rfl, ?_⟩) (by assumption) ?_
        rotate_left
        · (intro w hSw; (try dsimp only at hSw); go_simp; try with_reducible rfl)
        try simp only [Act.put, List.setIfInBounds_toArray, List.set_cons_zero, List.set_cons_succ]
        refine wpAnyH_take (i := 6) (v := ?_) rfl (by kernel_rfl) (by kernel_rfl) (by kernel_rfl) (fun _ _ _ h => h) (Or.inl ⟨by rfl, ?_⟩) (by assumption) ?_
        rotate_left
        · (intro w hSw; (try dsimp only at hSw); go_simp; try with_reducible rfl)
        try simp only [Act.put, List.setIfInBounds_toArray, List.set_cons_zero, List.set_cons_succ]
        refine wpAnyH_take (i := 7) (v := ?_) rfl (by kernel_rfl) (by kernel_rfl) (by kernel_rfl) (fun _ _ _ h => h) (Or.inl ⟨by rfl, ?_⟩) (by assumption) ?_
        rotate_left
        · (intro w hSw; (try dsimp only at hSw); go_simp; try with_reducible rfl)
        try simp only [Act.put, List.setIfInBounds_toArray, List.set_cons_zero, List.set_cons_succ]
        refine wpAnyH_take (i := 9) (v := ?_) rfl (by kernel_rfl) (by kernel_rfl) (by kernel_rfl) (fun _ _ _ h => h) (Or.inl ⟨by rfl, ?_⟩) (by assumption) ?_
        rotate_left
        · (intro w hSw; (try dsimp only at hSw); go_simp; try with_reducible rfl)
        try simp only [Act.put, List.setIfInBounds_toArray, List.set_cons_zero, List.set_cons_succ]
        refine wpAnyH_take (i := 10) (v := ?_) rfl (by kernel_rfl) (by kernel_rfl) (by kernel_rfl) (fun _ _ _ h => h) (Or.inl ⟨by rfl, ?_⟩) (by assumption) ?_
        rotate_left
        · (intro w hSw; (try dsimp only at hSw); go_simp; try with_reducible rfl)
        try simp only [Act.put, List.setIfInBounds_toArray, List.set_cons_zero, List.set_cons_succ]
        refine wpAnyH_take (i := 11) (v := ?_) rfl (by kernel_rfl) (by kernel_rfl) (by kernel_rfl) (fun _ _ _ h => h) (Or.inl ⟨by rfl, ?_⟩) (by assumption) ?_
        rotate_left
        · (intro w hSw; (try dsimp only at hSw); go_simp; try with_reducible rfl)
        try simp only [Act.put, List.setIfInBounds_toArray, List.set_cons_zero, List.set_cons_succ]
        refine wpAnyH_take (i := 12) (v := ?_) rfl (by kernel_rfl) (by kernel_rfl) (by kernel_rfl) (fun _ _ _ h => h) (Or.inl ⟨by rfl, ?_⟩) (by assumption) ?_
        rotate_left
        · (intro w hSw; (try dsimp only at hSw); go_simp; try with_reducible rfl)
        try simp only [Act.put, List.setIfInBounds_toArray, List.set_cons_zero, List.set_cons_succ]
        refine wpAnyH_ready (rs := [8]) (by kernel_rfl) (by simp) ?_
        refine AllReadyH.cons rfl (fun K hK => ?_) AllReadyH.nil
        go_simp
        refine hK.out _ _ (⟨x2, x3⟩) (fun hHeld => ?_)
        clear hK K
        try simp only [Act.put, List.setIfInBounds_toArray, List.set_cons_zero, List.set_cons_succ]
        refine wpAnyH_ready (rs := [13]) (by kernel_rfl) (by simp) ?_
        refine AllReadyH.cons rfl (fun K hK => ?_) AllReadyH.nil
        go_simp
        go_at_call 28
        refine hC.mono ?_
        rintro e w5 ⟨cN, aoN, capN, rfl, hoN, hfN, hrN, hlN1, hlN2, tN⟩
        have y3n := (show w5.cell? ⟨w.heap.size + 1 + 1 + 1 + 1 + 1 + 1 + 1 + 1 + 1 + 1, 11, none⟩ = some v2 by rw [tN.cell (cell_lt y3) (by simp)]; exact y3)
        have fzn := (show w5.frozen? ⟨w.heap.size + 1 + 1 + 1 + 1 + 1 + 1 + 1 + 1 + 1 + 1, 11, none⟩ = false by rw [tN.frozen (cell_lt y3) (by simp)]; exact fz)
        have x2n := (show w5.cell? ⟨w.heap.size + 1 + 1 + 1 + 1, 2, none⟩ = some (.slice (some ⟨w.heap.size + 1 + 1 + 1 + 1 + 1 + 1 + 1, 0, none⟩) 2 2) by rw [tN.cell (cell_lt x2) (by simp)]; exact x2)
        have x3n := (show w5.cell? ⟨w.heap.size + 1 + 1 + 1 + 1, 3, none⟩ = some (.slice (some ⟨w.heap.size + 1 + 1 + 1 + 1 + 1 + 1 + 1 + 1 + 1 + 1, 0, none⟩) 3 3) by rw [tN.cell (cell_lt x3) (by simp)]; exact x3)
        have tS := (Tch.refl [w.heap.size + 1 + 1 + 1 + 1 + 1 + 1 + 1 + 1 + 1 + 1] w5).setCell (p := ⟨w.heap.size + 1 + 1 + 1 + 1 + 1 + 1 + 1 + 1 + 1 + 1, 11, none⟩) (.inl (by simp)) (.slice aoN cN.length capN)
        have x2s := (tS.cell (cell_lt x2n) (by simp)).trans x2n
        have x3s := (tS.cell (cell_lt x3n) (by simp)).trans x3n
        refine hK.out _ _ (⟨x2n, x3n⟩) (fun hHeld => ?_)
        clear hK K
        try simp only [Act.put, List.setIfInBounds_toArray, List.set_cons_zero, List.set_cons_succ]
        refine wpAnyH_take (i := 14) (v := ?_) rfl (by kernel_rfl) (by kernel_rfl) (by kernel_rfl) (fun _ _ _ h => h) (Or.inl ⟨by rfl, ?_⟩) (by assumption) ?_
        rotate_left
        · (intro w hSw; (try dsimp only at hSw); go_simp; try with_reducible rfl)
        try simp only [Act.put, List.setIfInBounds_toArray, List.set_cons_zero, List.set_cons_succ]
        refine wpAnyH_take (i := 15) (v := ?_) rfl (by kernel_rfl) (by kernel_rfl) (by kernel_rfl) (fun _ _ _ h => h) (Or.inl ⟨by rfl, ?_⟩) (by assumption) ?_
        rotate_left
        · (intro w hSw; (try dsimp only at hSw); go_simp; try with_reducible rfl)
        try simp only [Act.put, List.setIfInBounds_toArray, List.set_cons_zero, List.set_cons_succ]
        refine wpAnyH_ready (rs := [16]) (by kernel_rfl) (by simp) ?_
        refine AllReadyH.cons rfl (fun K hK => ?_) AllReadyH.nil
        go_simp
        refine hK.out _ _ (⟨x2s, x3s⟩) (fun hHeld => ?_)
        clear hK K
        try simp only [Act.put, List.setIfInBounds_toArray, List.set_cons_zero, List.set_cons_succ]
        refine wpAnyH_done (by kernel_rfl) ?_ _
        go_wp2_with fail
        have hlt := (World.ownsRow.lt hD.hM (w.heap.size + 1 + 1 + 1 + 1 + 1 + 1 + 1 + 1 + 1 + 1) rfl).2
        have hnew := (src_of_owns hoN (w.heap.size :: (w.heap.size + 1 + 1 + 1 + 1 + 1 + 1 + 1 + 1 + 1 + 1) :: L0) (fun g hg hx => by
          have := hfN g hg
          rcases List.mem_cons.1 hx with hx | hx
          · omega
          · rcases List.mem_cons.1 hx with hx | hx
            · omega
            · have := hL0 _ hx
              have hz9 : w.heap.size ≤ wr.drew.heap.size := hzw
              omega)).tch tS (fun i hi _ => by rw [List.mem_singleton] at hi; rw [hi]; exact List.mem_cons_of_mem _ List.mem_cons_self)
        go_roundw
        case rel => exact ⟨3, v0, v1, .slice aoN cN.length capN, c0, c1, cN, by omega, by first | rfl | go_num, (hD.tch tN).set2 _, (hd0.tch tN (by simp)).tch tS (fun i hi _ => by rw [List.mem_singleton] at hi; rw [hi]; exact List.mem_cons_of_mem _ List.mem_cons_self), (hd1.tch tN (by simp)).tch tS (fun i hi _ => by rw [List.mem_singleton] at hi; rw [hi]; exact List.mem_cons_of_mem _ List.mem_cons_self), hnew, hk0.elim .inl (fun h => .inr (by omega)), hk1'.elim .inl (fun h => .inr (by omega)), .inl ⟨hrN, hlN1, hlN2⟩, (tD.then tN).setCell (.inr (by simp; omega)) _⟩
        case measure => simp [intOf]
    · have hR := hS.hR
      have hX := hS.hX
      have x0 : wr.cell? ⟨w.heap.size + 1 + 1 + 1 + 1, 0, none⟩ = some _ := (cell_of_row wr _ 0 _ _ _ hX).trans rfl
      have x1 : wr.cell? ⟨w.heap.size + 1 + 1 + 1 + 1, 1, none⟩ = some _ := (cell_of_row wr _ 1 _ _ _ hX).trans rfl
      have x2 : wr.cell? ⟨w.heap.size + 1 + 1 + 1 + 1, 2, none⟩ = some _ := (cell_of_row wr _ 2 _ _ _ hX).trans rfl
      have x3 : wr.cell? ⟨w.heap.size + 1 + 1 + 1 + 1, 3, none⟩ = some _ := (cell_of_row wr _ 3 _ _ _ hX).trans rfl
      have x4 : wr.cell? ⟨w.heap.size + 1 + 1 + 1 + 1, 4, none⟩ = some _ := (cell_of_row wr _ 4 _ _ _ hX).trans rfl
      have y0 : wr.cell? ⟨w.heap.size, 0, none⟩ = some _ := (cell_of_row wr _ 0 _ _ _ hR).trans rfl
      have y1 : wr.cell? ⟨w.heap.size, 1, none⟩ = some _ := (cell_of_row wr _ 1 _ _ _ hR).trans rfl
      have y2 : wr.cell? ⟨w.heap.size, 2, none⟩ = some _ := (cell_of_row wr _ 2 _ _ _ hR).trans rfl
      have y3 : wr.cell? ⟨w.heap.size, 3, none⟩ = some _ := (cell_of_row wr _ 3 _ _ _ hR).trans rfl
      have y4 : wr.cell? ⟨w.heap.size, 4, none⟩ = some _ := (cell_of_row wr _ 4 _ _ _ hR).trans rfl
      have hfz : ∀ j, wr.frozen? ⟨w.heap.size, j, none⟩ = false := fun j => by simp [World.frozen?, hR]
      have f0 := hfz 0
      have f1 := hfz 1
      have f2 := hfz 2
      have f3 := hfz 3
      have f4 := hfz 4
      clear hX hR hfz
      go_wp2_with fail
      have hm3e : m = 3 := by omega
      subst hm3e
      have tZ : Tch [w.heap.size] wr (((((wr.setCell ⟨w.heap.size, 0, none⟩ (.string ⟨n0.toArray⟩)).setCell ⟨w.heap.size, 1, none⟩ (.slice (some ⟨w.heap.size + 1 + 1, 0, none⟩) 4 4)).setCell ⟨w.heap.size, 2, none⟩ (.slice (some ⟨w.heap.size + 1 + 1 + 1 + 1 + 1 + 1 + 1, 0, none⟩) 2 2)).setCell ⟨w.heap.size, 3, none⟩ (.slice (some ⟨w.heap.size + 1 + 1 + 1 + 1 + 1 + 1 + 1 + 1 + 1 + 1, 0, none⟩) 3 3)).setCell ⟨w.heap.size, 4, none⟩ (.slice (some ⟨w.heap.size + 1 + 1 + 1, 0, none⟩) 2 2)) := (((((Tch.refl [w.heap.size] wr).setCell (.inl (by simp)) _).setCell (.inl (by simp)) _).setCell (.inl (by simp)) _).setCell (.inl (by simp)) _).setCell (.inl (by simp)) _
      obtain ⟨Z, hZ⟩ : ∃ Z, Z = (((((wr.setCell ⟨w.heap.size, 0, none⟩ (.string ⟨n0.toArray⟩)).setCell ⟨w.heap.size, 1, none⟩ (.slice (some ⟨w.heap.size + 1 + 1, 0, none⟩) 4 4)).setCell ⟨w.heap.size, 2, none⟩ (.slice (some ⟨w.heap.size + 1 + 1 + 1 + 1 + 1 + 1 + 1, 0, none⟩) 2 2)).setCell ⟨w.heap.size, 3, none⟩ (.slice (some ⟨w.heap.size + 1 + 1 + 1 + 1 + 1 + 1 + 1 + 1 + 1 + 1, 0, none⟩) 3 3)).setCell ⟨w.heap.size, 4, none⟩ (.slice (some ⟨w.heap.size + 1 + 1 + 1, 0, none⟩) 2 2)) := ⟨_, rfl⟩
      have z0 : Z.cell? ⟨w.heap.size, 0, none⟩ = some (.string ⟨n0.toArray⟩) := by rw [hZ]; simp [go_sem, y0]
      have z1 : Z.cell? ⟨w.heap.size, 1, none⟩ = some (.slice (some ⟨w.heap.size + 1 + 1, 0, none⟩) 4 4) := by rw [hZ]; simp [go_sem, y1]
      have z2 : Z.cell? ⟨w.heap.size, 2, none⟩ = some (.slice (some ⟨w.heap.size + 1 + 1 + 1 + 1 + 1 + 1 + 1, 0, none⟩) 2 2) := by rw [hZ]; simp [go_sem, y2]
      have z3 : Z.cell? ⟨w.heap.size, 3, none⟩ = some (.slice (some ⟨w.heap.size + 1 + 1 + 1 + 1 + 1 + 1 + 1 + 1 + 1 + 1, 0, none⟩) 3 3) := by rw [hZ]; simp [go_sem, y3]
      have z4 : Z.cell? ⟨w.heap.size, 4, none⟩ = some (.slice (some ⟨w.heap.size + 1 + 1 + 1, 0, none⟩) 2 2) := by rw [hZ]; simp [go_sem, y4]
      rw [← hZ] at tZ ⊢
      clear hZ y0 y1 y2 y3 y4 x0 x1 x2 x3 x4 f0 f1 f2 f3 f4
      refine bodyPost_ret (v := .agg #[.string ⟨n0.toArray⟩, .slice (some ⟨w.heap.size + 1 + 1, 0, none⟩) 4 4, .slice (some ⟨w.heap.size + 1 + 1 + 1 + 1 + 1 + 1 + 1, 0, none⟩) 2 2, .slice (some ⟨w.heap.size + 1 + 1 + 1 + 1 + 1 + 1 + 1 + 1 + 1 + 1, 0, none⟩) 3 3, .slice (some ⟨w.heap.size + 1 + 1 + 1, 0, none⟩) 2 2]) (by simp [results, go_sem, z0, z1, z2, z3, z4]) rfl ?_
      have hcm : ∀ v c, RCode wr (w.heap.size :: (w.heap.size + 1 + 1 + 1 + 1 + 1 + 1 + 1 + 1 + 1 + 1) :: L0) v c → RCode wr (w.heap.size :: L0) v c := fun v c h => Src.mono h (fun i hi _ => by
        rcases List.mem_cons.1 hi with hi | hi
        · exact hi ▸ List.mem_cons_self
        · exact List.mem_cons_of_mem _ (List.mem_cons_of_mem _ hi))
      have hI := (AppS.img hL0 hS (hcm _ _ hc0) (hcm _ _ hc1) (hcm _ _ hc2)).tch tZ (fun i hi _ => by rw [List.mem_singleton] at hi; rw [hi]; exact List.mem_cons_self)
      refine ⟨_, c0, c1, c2, rfl, ?_, hk0.resolve_right (by omega), hk1'.resolve_right (by omega), hk2'.resolve_right (by omega), ht.trans tZ (by simp) (fun i hi hx => by simp at hx; omega)⟩
      unfold appI
      rw [hn0, hn1, show wrap64 (wrap64 (k + 1) + ((0 : Nat) : Int) % 3) = wrap64 (wrap64 (k + 1)) by simp, hn2]
      exact hI.mono (fun i hi _ => List.mem_cons_of_mem _ hi)
end Go.Proofs.YteebapopeaafhaaGreatDoor
namespace Go.Tcn
open Go.RowKit
set_option linter.unusedVariables false
set_option linter.unusedSimpArgs false
/-- Raw statements, cut. -/
theorem Raws.cuth {w : World} {ao : Option Addr} {n cap : Nat} {l : List Rw} (h : Raws w (.slice ao n cap) l) (hi : Nat) (h1 : hi ≤ l.length) (h2 : hi ≤ cap) : Raws w (.slice ao hi cap) (l.take hi) := by
  obtain ⟨ao', cap', e, hm, hc⟩ := h.ex
  simp only [Value.slice.injEq] at e
  obtain ⟨rfl, rfl, rfl⟩ := e
  refine ⟨⟨ao, cap, by simp; omega, by simp; omega, fun k x hk => ?_⟩, fun x hx => h.rng x (List.mem_of_mem_take hx)⟩
  rw [List.getElem?_take] at hk
  split at hk
  · exact hc k x hk
  · cases hk
theorem Raws.cut {w : World} {ao : Option Addr} {n cap : Nat} {l : List Rw} (h : Raws w (.slice ao n cap) l) (lo hi : Nat) (h1 : lo ≤ hi) (h2 : hi ≤ l.length) (h3 : l.length ≤ cap) : Raws w (.slice (if cap = lo then ao else Option.map (fun x => x.add (lo * 4)) ao) (hi - lo) (cap - lo)) ((l.take hi).drop lo) := by
  obtain ⟨ao', cap', e, hm, hc⟩ := h.ex
  simp only [Value.slice.injEq] at e
  obtain ⟨rfl, rfl, rfl⟩ := e
  have hlen : ((l.take hi).drop lo).length = hi - lo := by rw [List.length_drop, List.length_take]; omega
  refine ⟨⟨if cap = lo then ao else Option.map (fun x => x.add (lo * 4)) ao, cap - lo, by rw [hlen], by omega, fun k x hk => ?_⟩, fun x hx => h.rng x (List.mem_of_mem_take (List.mem_of_mem_drop hx))⟩
  rw [List.getElem?_drop, List.getElem?_take] at hk
  split at hk
  · obtain ⟨ad, rfl, hl, hcell⟩ := hc (lo + k) x hk
    by_cases hz : cap = lo
    · omega
    · refine ⟨ad.add (lo * 4), by simp [hz], by rw [Addr_add_block]; exact hl, fun j u hj => ?_⟩
      have := hcell j u hj
      rw [Addr_add_add ad (lo * 4) (k * 4), show lo * 4 + k * 4 = (lo + k) * 4 by omega]
      exact this
  · cases hk
end Go.Tcn
namespace Go.Proofs.YteebapopeaafhaaGreatDoor
open Go.RowKit Go.Tcn
set_option linter.unusedVariables false
set_option linter.unusedSimpArgs false

set_option maxRecDepth 100000 in
set_option maxHeartbeats 8000000 in
theorem hand_Applet (w : World) (hG : Bins w 2) (k : Int) (hk : I6 k) (xv : Value) (l : List Rw) (hl : Raws w xv l) (hll : l.length ≤ 5000000000000) (hcap : ∀ ao n c, xv = .slice ao n c → n ≤ c) (L0 : List Nat) (hL0 : ∀ i ∈ L0, i < w.heap.size) : Calls Tryz.prog 9 #[.int .i64 k, xv] w fun e w' => ∃ (cs : Array Value) (c0 c1 c2 : List Ins), e = .returned (.agg cs) ∧ RImg w' L0 cs.toList (appI k l.length c0 c1 c2) ∧ CodeOk c0 ∧ CodeOk c1 ∧ CodeOk c2 ∧ Tch [] w w' := by
  have hk1 := @wrap64_I6 ⟨true, []⟩ (k + 1)
  have hk2 := @wrap64_I6 ⟨true, []⟩ (wrap64 (k + 1) + (l.length : Int) % 3)
  have hP3 := fun w => hand_Pick (l.length : Int) 3 (by omega) (by omega) (by omega) w
  obtain ⟨aox, capx, hxv, hlm, _⟩ := id hl.ex
  subst hxv
  have hcp : l.length ≤ capx := hcap _ _ _ rfl
  clear hcap
  go_enter Tryz.func9, Tryz.ntmps9
  go_wp2_with fail
  refine (hand_Name _ k hk).mono ?_
  rintro e w1 ⟨rfl, rfl⟩
  go_wp2_with fail
  refine (hand_Name _ _ hk1).mono ?_
  rintro e w1 ⟨rfl, rfl⟩
  go_wp2_with fail
  refine (hP3 _).mono ?_
  rintro e w1 ⟨rfl, rfl⟩
  go_wp2_with fail
  refine (hand_Name _ _ hk2).mono ?_
  rintro e w1 ⟨rfl, rfl⟩
  obtain ⟨V, hV, hA, tV⟩ := AppS.start (TI := 30) (TM := 55) (TP := 51) (TE := 3) w (nameOf k) (nameOf (wrap64 (k + 1))) (nameOf (wrap64 (wrap64 (k + 1) + (l.length : Int) % 3)))
  go_upto_region 5 with fail
  rw [← hV]
  clear hV hP3
  generalize hn2 : nameOf (wrap64 (wrap64 (k + 1) + (l.length : Int) % 3)) = n2 at *
  generalize hn1 : nameOf (wrap64 (k + 1)) = n1 at *
  generalize hn0 : nameOf k = n0 at *
  go_wp2_with fail
  go_loopw [8] (fun i wz => ∃ (m : Nat) (v0 v1 v2 : Value) (c0 c1 c2 : List Ins), m ≤ 3 ∧ i = .int .i64 m ∧ AppS 30 55 51 3 w.heap.size wz n0 n1 n2 v0 v1 v2 ∧ RCode wz (w.heap.size :: (w.heap.size + 1 + 1 + 1 + 1 + 1 + 1 + 1 + 1 + 1 + 1) :: L0) v0 c0 ∧ RCode wz (w.heap.size :: (w.heap.size + 1 + 1 + 1 + 1 + 1 + 1 + 1 + 1 + 1 + 1) :: L0) v1 c1 ∧ RCode wz (w.heap.size :: (w.heap.size + 1 + 1 + 1 + 1 + 1 + 1 + 1 + 1 + 1 + 1) :: L0) v2 c2 ∧ (CodeOk c0 ∨ m ≤ 0) ∧ (CodeOk c1 ∨ m ≤ 1) ∧ (CodeOk c2 ∨ m ≤ 2) ∧ Tch [] w wz) (fun i _ => 3 - (intOf i).toNat)
  case atStart => exact ⟨0, _, _, _, [], [], [], by omega, rfl, hA, ⟨.inl ⟨rfl, rfl, rfl⟩⟩, ⟨.inl ⟨rfl, rfl, rfl⟩⟩, ⟨.inl ⟨rfl, rfl, rfl⟩⟩, .inr (by omega), .inr (by omega), .inr (by omega), tV⟩
  case round =>
    obtain ⟨m, v0, v1, v2, c0, c1, c2, hm, rfl, hS, hc0, hc1, hc2, hk0, hk1', hk2', ht⟩ := hrel
    clear hA tV
    by_cases hm3 : m < 3
    · have hms : m = 0 ∨ m = 1 ∨ m = 2 := by omega
      have hX := hS.hX
      have x2 : wr.drew.cell? ⟨w.heap.size + 1 + 1 + 1 + 1, 2, none⟩ = some (.slice (some ⟨w.heap.size + 1 + 1 + 1 + 1 + 1 + 1 + 1, 0, none⟩) 2 2) := (cell_of_row wr _ 2 _ _ _ hX).trans rfl
      have x3 : wr.drew.cell? ⟨w.heap.size + 1 + 1 + 1 + 1, 3, none⟩ = some (.slice (some ⟨w.heap.size + 1 + 1 + 1 + 1 + 1 + 1 + 1 + 1 + 1 + 1, 0, none⟩) 3 3) := (cell_of_row wr _ 3 _ _ _ hX).trans rfl
      have hD := hS.tch (Tch.refl [] wr).drew
      have tD : Tch [] w wr.drew := ht.drew
      have hmono : ∀ v c, RCode wr (w.heap.size :: (w.heap.size + 1 + 1 + 1 + 1 + 1 + 1 + 1 + 1 + 1 + 1) :: L0) v c → RCode wr.drew (w.heap.size :: (w.heap.size + 1 + 1 + 1 + 1 + 1 + 1 + 1 + 1 + 1 + 1) :: L0) v c := fun v c h => h.tch (Tch.refl [] wr).drew (by simp)
      have hd0 := hmono _ _ hc0
      have hd1 := hmono _ _ hc1
      have hd2 := hmono _ _ hc2
      have hm1 : ∀ v c, RCode wr.drew (w.heap.size :: (w.heap.size + 1 + 1 + 1 + 1 + 1 + 1 + 1 + 1 + 1 + 1) :: L0) v c → RCode wr.drew (w.heap.size :: L0) v c := fun v c h => Src.mono h (fun i hi _ => by
        rcases List.mem_cons.1 hi with hi | hi
        · exact hi ▸ List.mem_cons_self
        · exact List.mem_cons_of_mem _ (List.mem_cons_of_mem _ hi))
      have hMths := AppS.mths hL0 hD (hm1 _ _ hd0) (hm1 _ _ hd1) (hm1 _ _ hd2)
      have hMths' : RMths wr.drew [] (.slice (some ⟨w.heap.size + 1 + 1 + 1 + 1 + 1 + 1 + 1 + 1 + 1 + 1, 0, none⟩) 3 3) _ := hMths.thin
      have hImps' : RImps wr.drew [] (.slice (some ⟨w.heap.size + 1 + 1 + 1 + 1 + 1 + 1 + 1, 0, none⟩) 2 2) _ := (AppS.imps hL0 hD).thin
      have hfzM : ∀ j, wr.drew.frozen? ⟨w.heap.size + 1 + 1 + 1 + 1 + 1 + 1 + 1 + 1 + 1 + 1, j, none⟩ = false := fun j => World.ownsRow.frozenAt hD.hM j
      have hcM : ∀ j, j < 12 → wr.drew.cell? ⟨w.heap.size + 1 + 1 + 1 + 1 + 1 + 1 + 1 + 1 + 1 + 1, j, none⟩ = _ := fun j hj => World.ownsRow.cellAt hD.hM j hj
      have hzw := ht.size
      clear hmono hm1 hX hMths
      have hRd : Raws wr.drew (.slice aox l.length capx) l := hl.tch tD
      rcases hms with rfl | rfl | rfl
      · have hC := fun xv l' (h1 : Raws wr.drew xv l') (h2 : l'.length ≤ 5000000000000) => hand_Code wr.drew (hG.tch tD) xv l' h1 h2 ⟨[], 0, [1, 2, 3, 4], c0⟩ (.slice none 0 0) (.slice (some ⟨w.heap.size + 1, 0, none⟩) 4 4) v0 (⟨.inl ⟨rfl, rfl, rfl⟩⟩) ((AppS.iB hL0 hD).thin) (by simp) (by simp) (by simp) (by simp) (by simp) (.slice (some ⟨w.heap.size + 1 + 1 + 1 + 1 + 1 + 1 + 1 + 1 + 1 + 1, 0, none⟩) 3 3) _ hMths' (by simp) (by simp) (.slice (some ⟨w.heap.size + 1 + 1 + 1 + 1 + 1 + 1 + 1, 0, none⟩) 2 2) _ hImps' (by simp) (by simp)
        have y0 := hcM 0 (by omega)
        have y1 := hcM 1 (by omega)
        have y2 := hcM 2 (by omega)
        have y3 := hcM 3 (by omega)
        have fz := hfzM 3
        simp at y0 y1 y2 y3
        clear hcM hfzM
        go_upto_region 12 with fail
        refine wp_region_held_drew (S := fun w' => w'.cell? ⟨w.heap.size + 1 + 1 + 1 + 1, 2, none⟩ = some (.slice (some ⟨w.heap.size + 1 + 1 + 1 + 1 + 1 + 1 + 1, 0, none⟩) 2 2) ∧ w'.cell? ⟨w.heap.size + 1 + 1 + 1 + 1, 3, none⟩ = some (.slice (some ⟨w.heap.size + 1 + 1 + 1 + 1 + 1 + 1 + 1 + 1 + 1 + 1, 0, none⟩) 3 3)) (by kernel_rfl) ⟨x2, x3⟩ (fun hHeld => ?_)
        refine wpAnyH_take (i := 0) (v := ?_) rfl (by kernel_rfl) (by kernel_rfl) (by kernel_rfl) (fun _ _ _ h => h) (Or.inl ⟨by rfl, ?_⟩) (by assumption) ?_
        rotate_left
        · (intro w hSw; (try dsimp only at hSw); go_simp; try with_reducible rfl)
        try simp only [Act.put, List.setIfInBounds_toArray, List.set_cons_zero, List.set_cons_succ]
        refine wpAnyH_take (i := 1) (v := ?_) rfl (by kernel_rfl) (by kernel_rfl) (by kernel_rfl) (fun _ _ _ h => h) (Or.inl ⟨by rfl, ?_⟩) (by assumption) ?_
        rotate_left
        · (intro w hSw; (try dsimp only at hSw); go_simp; try with_reducible rfl)
        try simp only [Act.put, List.setIfInBounds_toArray, List.set_cons_zero, List.set_cons_succ]
        refine wpAnyH_take (i := 2) (v := ?_) rfl (by kernel_rfl) (by kernel_rfl) (by kernel_rfl) (fun _ _ _ h => h) (Or.inl ⟨by rfl, ?_⟩) (by assumption) ?_
        rotate_left
        · (intro w hSw; (try dsimp only at hSw); go_simp; try with_reducible rfl)
        try simp only [Act.put, List.setIfInBounds_toArray, List.set_cons_zero, List.set_cons_succ]
        refine wpAnyH_take (i := 3) (v := ?_) rfl (by kernel_rfl) (by kernel_rfl) (by kernel_rfl) (fun _ _ _ h => h) (Or.inl ⟨by rfl, ?_⟩) (by assumption) ?_
        rotate_left
        · (intro w hSw; (try dsimp only at hSw); go_simp; try with_reducible rfl)
        try simp only [Act.put, List.setIfInBounds_toArray, List.set_cons_zero, List.set_cons_succ]
        refine wpAnyH_take (i := 4) (v := ?_) rfl (by kernel_rfl) (by kernel_rfl) (by kernel_rfl) (fun _ _ _ h => h) (Or.inl ⟨by rfl, ?_⟩) (by assumption) ?_
        rotate_left
        · (intro w hSw; (try dsimp only at hSw); go_simp; try with_reducible rfl)
        try simp only [Act.put, List.setIfInBounds_toArray, List.set_cons_zero, List.set_cons_succ]
        refine wpAnyH_take (i := 5) (v := ?_) rfl (by kernel_rfl) (by kernel_rfl) (by kernel_rfl) (fun _ _ _ h => h) (Or.inl ⟨by rfl, ?_⟩) (by assumption) ?_
        rotate_left
        · (intro w hSw; (try dsimp only at hSw); go_simp; try with_reducible rfl)
        try simp only [Act.put, List.setIfInBounds_toArray, List.set_cons_zero, List.set_cons_succ]
        refine wpAnyH_take (i := 6) (v := ?_) rfl (by kernel_rfl) (by kernel_rfl) (by kernel_rfl) (fun _ _ _ h => h) (Or.inl ⟨by rfl, ?_⟩) (by assumption) ?_
        rotate_left
        · (intro w hSw; (try dsimp only at hSw); go_simp; try with_reducible rfl)
        try simp only [Act.put, List.setIfInBounds_toArray, List.set_cons_zero, List.set_cons_succ]
        refine wpAnyH_take (i := 7) (v := ?_) rfl (by kernel_rfl) (by kernel_rfl) (by kernel_rfl) (fun _ _ _ h => h) (Or.inl ⟨by rfl, ?_⟩) (by assumption) ?_
        rotate_left
        · (intro w hSw; (try dsimp only at hSw); go_simp; try with_reducible rfl)
        try simp only [Act.put, List.setIfInBounds_toArray, List.set_cons_zero, List.set_cons_succ]
        refine wpAnyH_take (i := 9) (v := ?_) rfl (by kernel_rfl) (by kernel_rfl) (by kernel_rfl) (fun _ _ _ h => h) (Or.inl ⟨by rfl, ?_⟩) (by assumption) ?_
        rotate_left
        · (intro w hSw; (try dsimp only at hSw); go_simp; try with_reducible rfl)
        try simp only [Act.put, List.setIfInBounds_toArray, List.set_cons_zero, List.set_cons_succ]
        refine wpAnyH_take (i := 10) (v := ?_) rfl (by kernel_rfl) (by kernel_rfl) (by kernel_rfl) (fun _ _ _ h => h) (Or.inl ⟨by rfl, ?_⟩) (by assumption) ?_
        rotate_left
        · (intro w hSw; (try dsimp only at hSw); go_simp; try with_reducible rfl)
        try simp only [Act.put, List.setIfInBounds_toArray, List.set_cons_zero, List.set_cons_succ]
        refine wpAnyH_take (i := 11) (v := ?_) rfl (by kernel_rfl) (by kernel_rfl) (by kernel_rfl) (fun _ _ _ h => h) (Or.inl ⟨by rfl, ?_⟩) (by assumption) ?_
        rotate_left
        · (intro w hSw; (try dsimp only at hSw); go_simp; try with_reducible rfl)
        try simp only [Act.put, List.setIfInBounds_toArray, List.set_cons_zero, List.set_cons_succ]
        refine wpAnyH_take (i := 12) (v := ?_) rfl (by kernel_rfl) (by kernel_rfl) (by kernel_rfl) (fun _ _ _ h => h) (Or.inl ⟨by rfl, ?_⟩) (by assumption) ?_
        rotate_left
        · (intro w hSw; (try dsimp only at hSw); go_simp; try with_reducible rfl)
        try simp only [Act.put, List.setIfInBounds_toArray, List.set_cons_zero, List.set_cons_succ]
        refine wpAnyH_ready (rs := [8]) (by kernel_rfl) (by simp) ?_
        refine AllReadyH.cons rfl (fun K hK => ?_) AllReadyH.nil
        go_simp
        refine hK.out _ _ (⟨x2, x3⟩) (fun hHeld => ?_)
        clear hK K
        try simp only [Act.put, List.setIfInBounds_toArray, List.set_cons_zero, List.set_cons_succ]
        refine wpAnyH_ready (rs := [13]) (by kernel_rfl) (by simp) ?_
        refine AllReadyH.cons rfl (fun K hK => ?_) AllReadyH.nil
        go_simp
        go_at_call 28
        refine (hC _ _ (hRd.cuth _ (by (repeat' split) <;> omega) (by (repeat' split) <;> omega)) (by simp only [List.length_drop, List.length_take]; omega)).mono ?_
        rintro e w5 ⟨cN, aoN, capN, rfl, hoN, hfN, hrN, hlN1, hlN2, tN⟩
        have y3n := (show w5.cell? ⟨w.heap.size + 1 + 1 + 1 + 1 + 1 + 1 + 1 + 1 + 1 + 1, 3, none⟩ = some v0 by rw [tN.cell (cell_lt y3) (by simp)]; exact y3)
        have fzn := (show w5.frozen? ⟨w.heap.size + 1 + 1 + 1 + 1 + 1 + 1 + 1 + 1 + 1 + 1, 3, none⟩ = false by rw [tN.frozen (cell_lt y3) (by simp)]; exact fz)
        have x2n := (show w5.cell? ⟨w.heap.size + 1 + 1 + 1 + 1, 2, none⟩ = some (.slice (some ⟨w.heap.size + 1 + 1 + 1 + 1 + 1 + 1 + 1, 0, none⟩) 2 2) by rw [tN.cell (cell_lt x2) (by simp)]; exact x2)
        have x3n := (show w5.cell? ⟨w.heap.size + 1 + 1 + 1 + 1, 3, none⟩ = some (.slice (some ⟨w.heap.size + 1 + 1 + 1 + 1 + 1 + 1 + 1 + 1 + 1 + 1, 0, none⟩) 3 3) by rw [tN.cell (cell_lt x3) (by simp)]; exact x3)
        have tS := (Tch.refl [w.heap.size + 1 + 1 + 1 + 1 + 1 + 1 + 1 + 1 + 1 + 1] w5).setCell (p := ⟨w.heap.size + 1 + 1 + 1 + 1 + 1 + 1 + 1 + 1 + 1 + 1, 3, none⟩) (.inl (by simp)) (.slice aoN cN.length capN)
        have x2s := (tS.cell (cell_lt x2n) (by simp)).trans x2n
        have x3s := (tS.cell (cell_lt x3n) (by simp)).trans x3n
        refine hK.out _ _ (⟨x2n, x3n⟩) (fun hHeld => ?_)
        clear hK K
        try simp only [Act.put, List.setIfInBounds_toArray, List.set_cons_zero, List.set_cons_succ]
        refine wpAnyH_take (i := 14) (v := ?_) rfl (by kernel_rfl) (by kernel_rfl) (by kernel_rfl) (fun _ _ _ h => h) (Or.inl ⟨by rfl, ?_⟩) (by assumption) ?_
        rotate_left
        · (intro w hSw; (try dsimp only at hSw); go_simp; try with_reducible rfl)
        try simp only [Act.put, List.setIfInBounds_toArray, List.set_cons_zero, List.set_cons_succ]
        refine wpAnyH_take (i := 15) (v := ?_) rfl (by kernel_rfl) (by kernel_rfl) (by kernel_rfl) (fun _ _ _ h => h) (Or.inl ⟨by rfl, ?_⟩) (by assumption) ?_
        rotate_left
        · (intro w hSw; (try dsimp only at hSw); go_simp; try with_reducible rfl)
        try simp only [Act.put, List.setIfInBounds_toArray, List.set_cons_zero, List.set_cons_succ]
        refine wpAnyH_ready (rs := [16]) (by kernel_rfl) (by simp) ?_
        refine AllReadyH.cons rfl (fun K hK => ?_) AllReadyH.nil
        go_simp
        refine hK.out _ _ (⟨x2s, x3s⟩) (fun hHeld => ?_)
        clear hK K
        try simp only [Act.put, List.setIfInBounds_toArray, List.set_cons_zero, List.set_cons_succ]
        refine wpAnyH_done (by kernel_rfl) ?_ _
        go_wp2_with fail
        have hlt := (World.ownsRow.lt hD.hM (w.heap.size + 1 + 1 + 1 + 1 + 1 + 1 + 1 + 1 + 1 + 1) rfl).2
        have hnew := (src_of_owns hoN (w.heap.size :: (w.heap.size + 1 + 1 + 1 + 1 + 1 + 1 + 1 + 1 + 1 + 1) :: L0) (fun g hg hx => by
          have := hfN g hg
          rcases List.mem_cons.1 hx with hx | hx
          · omega
          · rcases List.mem_cons.1 hx with hx | hx
            · omega
            · have := hL0 _ hx
              have hz9 : w.heap.size ≤ wr.drew.heap.size := hzw
              omega)).tch tS (fun i hi _ => by rw [List.mem_singleton] at hi; rw [hi]; exact List.mem_cons_of_mem _ List.mem_cons_self)
        go_roundw
        case rel => exact ⟨1, .slice aoN cN.length capN, v1, v2, cN, c1, c2, by omega, by first | rfl | go_num, (hD.tch tN).set0 _, hnew, (hd1.tch tN (by simp)).tch tS (fun i hi _ => by rw [List.mem_singleton] at hi; rw [hi]; exact List.mem_cons_of_mem _ List.mem_cons_self), (hd2.tch tN (by simp)).tch tS (fun i hi _ => by rw [List.mem_singleton] at hi; rw [hi]; exact List.mem_cons_of_mem _ List.mem_cons_self), .inl ⟨hrN, hlN1, hlN2⟩, hk1'.elim .inl (fun h => .inr (by omega)), hk2'.elim .inl (fun h => .inr (by omega)), (tD.then tN).setCell (.inr (by simp; omega)) _⟩
        case measure => simp [intOf]
      · have hC := fun xv l' (h1 : Raws wr.drew xv l') (h2 : l'.length ≤ 5000000000000) => hand_Code wr.drew (hG.tch tD) xv l' h1 h2 ⟨[1, 2], 2, [1, 2, 3, 4], c1⟩ (.slice (some ⟨w.heap.size + 1 + 1 + 1 + 1 + 1 + 1 + 1 + 1, 0, none⟩) 2 2) (.slice (some ⟨w.heap.size + 1, 0, none⟩) 4 4) v1 ((AppS.iQ1 hL0 hD).thin) ((AppS.iB hL0 hD).thin) (by simp) (by simp) (by simp) (by simp) (by simp) (.slice (some ⟨w.heap.size + 1 + 1 + 1 + 1 + 1 + 1 + 1 + 1 + 1 + 1, 0, none⟩) 3 3) _ hMths' (by simp) (by simp) (.slice (some ⟨w.heap.size + 1 + 1 + 1 + 1 + 1 + 1 + 1, 0, none⟩) 2 2) _ hImps' (by simp) (by simp)
        have y0 := hcM 4 (by omega)
        have y1 := hcM 5 (by omega)
        have y2 := hcM 6 (by omega)
        have y3 := hcM 7 (by omega)
        have fz := hfzM 7
        simp at y0 y1 y2 y3
        clear hcM hfzM
        go_upto_region 12 with fail
        refine wp_region_held_drew (S := fun w' => w'.cell? ⟨w.heap.size + 1 + 1 + 1 + 1, 2, none⟩ = some (.slice (some ⟨w.heap.size + 1 + 1 + 1 + 1 + 1 + 1 + 1, 0, none⟩) 2 2) ∧ w'.cell? ⟨w.heap.size + 1 + 1 + 1 + 1, 3, none⟩ = some (.slice (some ⟨w.heap.size + 1 + 1 + 1 + 1 + 1 + 1 + 1 + 1 + 1 + 1, 0, none⟩) 3 3)) (by kernel_rfl) ⟨x2, x3⟩ (fun hHeld => ?_)
        refine wpAnyH_take (i := 0) (v := ?_) rfl (by kernel_rfl) (by kernel_rfl) (by kernel_rfl) (fun _ _ _ h => h) (Or.inl ⟨by rfl, ?_⟩) (by assumption) ?_
        rotate_left
        · (intro w hSw; (try dsimp only at hSw); go_simp; try with_reducible rfl)
        try simp only [Act.put, List.setIfInBounds_toArray, List.set_cons_zero, List.set_cons_succ]
        refine wpAnyH_take (i := 1) (v := ?_) rfl (by kernel_rfl) (by kernel_rfl) (by kernel_rfl) (fun _ _ _ h => h) (Or.inl ⟨by rfl, ?_⟩) (by assumption) ?_
        rotate_left
        · (intro w hSw; (try dsimp only at hSw); go_simp; try with_reducible rfl)
        try simp only [Act.put, List.setIfInBounds_toArray, List.set_cons_zero, List.set_cons_succ]
        refine wpAnyH_take (i := 2) (v := ?_) rfl (by kernel_rfl) (by kernel_rfl) (by kernel_rfl) (fun _ _ _ h => h) (Or.inl ⟨by rfl, ?_⟩) (by assumption) ?_
        rotate_left
        · (intro w hSw; (try dsimp only at hSw); go_simp; try with_reducible rfl)
        try simp only [Act.put, List.setIfInBounds_toArray, List.set_cons_zero, List.set_cons_succ]
        refine wpAnyH_take (i := 3) (v := ?_) rfl (by kernel_rfl) (by kernel_rfl) (by kernel_rfl) (fun _ _ _ h => h) (Or.inl ⟨by rfl, ?_⟩) (by assumption) ?_
        rotate_left
        · (intro w hSw; (try dsimp only at hSw); go_simp; try with_reducible rfl)
        try simp only [Act.put, List.setIfInBounds_toArray, List.set_cons_zero, List.set_cons_succ]
        refine wpAnyH_take (i := 4) (v := ?_) rfl (by kernel_rfl) (by kernel_rfl) (by kernel_rfl) (fun _ _ _ h => h) (Or.inl ⟨by rfl, ?_⟩) (by assumption) ?_
        rotate_left
        · (intro w hSw; (try dsimp only at hSw); go_simp; try with_reducible rfl)
        try simp only [Act.put, List.setIfInBounds_toArray, List.set_cons_zero, List.set_cons_succ]
        refine wpAnyH_take (i := 5) (v := ?_) rfl (by kernel_rfl) (by kernel_rfl) (by kernel_rfl) (fun _ _ _ h => h) (Or.inl ⟨by rfl, ?_⟩) (by assumption) ?_
        rotate_left
        · (intro w hSw; (try dsimp only at hSw); go_simp; try with_reducible rfl)
        try simp only [Act.put, List.setIfInBounds_toArray, List.set_cons_zero, List.set_cons_succ]
        refine wpAnyH_take (i := 6) (v := ?_) rfl (by kernel_rfl) (by kernel_rfl) (by kernel_rfl) (fun _ _ _ h => h) (Or.inl ⟨by rfl, ?_⟩) (by assumption) ?_
        rotate_left
        · (intro w hSw; (try dsimp only at hSw); go_simp; try with_reducible rfl)
        try simp only [Act.put, List.setIfInBounds_toArray, List.set_cons_zero, List.set_cons_succ]
        refine wpAnyH_take (i := 7) (v := ?_) rfl (by kernel_rfl) (by kernel_rfl) (by kernel_rfl) (fun _ _ _ h => h) (Or.inl ⟨by rfl, ?_⟩) (by assumption) ?_
        rotate_left
        · (intro w hSw; (try dsimp only at hSw); go_simp; try with_reducible rfl)
        try simp only [Act.put, List.setIfInBounds_toArray, List.set_cons_zero, List.set_cons_succ]
        refine wpAnyH_take (i := 9) (v := ?_) rfl (by kernel_rfl) (by kernel_rfl) (by kernel_rfl) (fun _ _ _ h => h) (Or.inl ⟨by rfl, ?_⟩) (by assumption) ?_
        rotate_left
        · (intro w hSw; (try dsimp only at hSw); go_simp; try with_reducible rfl)
        try simp only [Act.put, List.setIfInBounds_toArray, List.set_cons_zero, List.set_cons_succ]
        refine wpAnyH_take (i := 10) (v := ?_) rfl (by kernel_rfl) (by kernel_rfl) (by kernel_rfl) (fun _ _ _ h => h) (Or.inl ⟨by rfl, ?_⟩) (by assumption) ?_
        rotate_left
        · (intro w hSw; (try dsimp only at hSw); go_simp; try with_reducible rfl)
        try simp only [Act.put, List.setIfInBounds_toArray, List.set_cons_zero, List.set_cons_succ]
        refine wpAnyH_take (i := 11) (v := ?_) rfl (by kernel_rfl) (by kernel_rfl) (by kernel_rfl) (fun _ _ _ h => h) (Or.inl ⟨by rfl, ?_⟩) (by assumption) ?_
        rotate_left
        · (intro w hSw; (try dsimp only at hSw); go_simp; try with_reducible rfl)
        try simp only [Act.put, List.setIfInBounds_toArray, List.set_cons_zero, List.set_cons_succ]
        refine wpAnyH_take (i := 12) (v := ?_) rfl (by kernel_rfl) (by kernel_rfl) (by kernel_rfl) (fun _ _ _ h => h) (Or.inl ⟨by rfl, ?_⟩) (by assumption) ?_
        rotate_left
        · (intro w hSw; (try dsimp only at hSw); go_simp; try with_reducible rfl)
        try simp only [Act.put, List.setIfInBounds_toArray, List.set_cons_zero, List.set_cons_succ]
        refine wpAnyH_ready (rs := [8]) (by kernel_rfl) (by simp) ?_
        refine AllReadyH.cons rfl (fun K hK => ?_) AllReadyH.nil
        go_simp
        refine hK.out _ _ (⟨x2, x3⟩) (fun hHeld => ?_)
        clear hK K
        try simp only [Act.put, List.setIfInBounds_toArray, List.set_cons_zero, List.set_cons_succ]
        refine wpAnyH_ready (rs := [13]) (by kernel_rfl) (by simp) ?_
        refine AllReadyH.cons rfl (fun K hK => ?_) AllReadyH.nil
        go_simp
        go_at_call 28
        refine (hC _ _ (hRd.cut _ _ (by (repeat' split) <;> omega) (by (repeat' split) <;> omega) hcp) (by simp only [List.length_drop, List.length_take]; omega)).mono ?_
        rintro e w5 ⟨cN, aoN, capN, rfl, hoN, hfN, hrN, hlN1, hlN2, tN⟩
        have y3n := (show w5.cell? ⟨w.heap.size + 1 + 1 + 1 + 1 + 1 + 1 + 1 + 1 + 1 + 1, 7, none⟩ = some v1 by rw [tN.cell (cell_lt y3) (by simp)]; exact y3)
        have fzn := (show w5.frozen? ⟨w.heap.size + 1 + 1 + 1 + 1 + 1 + 1 + 1 + 1 + 1 + 1, 7, none⟩ = false by rw [tN.frozen (cell_lt y3) (by simp)]; exact fz)
        have x2n := (show w5.cell? ⟨w.heap.size + 1 + 1 + 1 + 1, 2, none⟩ = some (.slice (some ⟨w.heap.size + 1 + 1 + 1 + 1 + 1 + 1 + 1, 0, none⟩) 2 2) by rw [tN.cell (cell_lt x2) (by simp)]; exact x2)
        have x3n := (show w5.cell? ⟨w.heap.size + 1 + 1 + 1 + 1, 3, none⟩ = some (.slice (some ⟨w.heap.size + 1 + 1 + 1 + 1 + 1 + 1 + 1 + 1 + 1 + 1, 0, none⟩) 3 3) by rw [tN.cell (cell_lt x3) (by simp)]; exact x3)
        have tS := (Tch.refl [w.heap.size + 1 + 1 + 1 + 1 + 1 + 1 + 1 + 1 + 1 + 1] w5).setCell (p := ⟨w.heap.size + 1 + 1 + 1 + 1 + 1 + 1 + 1 + 1 + 1 + 1, 7, none⟩) (.inl (by simp)) (.slice aoN cN.length capN)
        have x2s := (tS.cell (cell_lt x2n) (by simp)).trans x2n
        have x3s := (tS.cell (cell_lt x3n) (by simp)).trans x3n
        refine hK.out _ _ (⟨x2n, x3n⟩) (fun hHeld => ?_)
        clear hK K
        try simp only [Act.put, List.setIfInBounds_toArray, List.set_cons_zero, List.set_cons_succ]
        refine wpAnyH_take (i := 14) (v := ?_) rfl (by kernel_rfl) (by kernel_rfl) (by kernel_rfl) (fun _ _ _ h => h) (Or.inl ⟨by rfl, ?_⟩) (by assumption) ?_
        rotate_left
        · (intro w hSw; (try dsimp only at hSw); go_simp; try with_reducible rfl)
        try simp only [Act.put, List.setIfInBounds_toArray, List.set_cons_zero, List.set_cons_succ]
        refine wpAnyH_take (i := 15) (v := ?_) rfl (by kernel_rfl) (by kernel_rfl) (by kernel_rfl) (fun _ _ _ h => h) (Or.inl ⟨by rfl, ?_⟩) (by assumption) ?_
        rotate_left
        · (intro w hSw; (try dsimp only at hSw); go_simp; try with_reducible rfl)
        try simp only [Act.put, List.setIfInBounds_toArray, List.set_cons_zero, List.set_cons_succ]
        refine wpAnyH_ready (rs := [16]) (by kernel_rfl) (by simp) ?_
        refine AllReadyH.cons rfl (fun K hK => ?_) AllReadyH.nil
        go_simp
        refine hK.out _ _ (⟨x2s, x3s⟩) (fun hHeld => ?_)
        clear hK K
        try simp only [Act.put, List.setIfInBounds_toArray, List.set_cons_zero, List.set_cons_succ]
        refine wpAnyH_done (by kernel_rfl) ?_ _
        go_wp2_with fail
        have hlt := (World.ownsRow.lt hD.hM (w.heap.size + 1 + 1 + 1 + 1 + 1 + 1 + 1 + 1 + 1 + 1) rfl).2
        have hnew := (src_of_owns hoN (w.heap.size :: (w.heap.size + 1 + 1 + 1 + 1 + 1 + 1 + 1 + 1 + 1 + 1) :: L0) (fun g hg hx => by
          have := hfN g hg
          rcases List.mem_cons.1 hx with hx | hx
          · omega
          · rcases List.mem_cons.1 hx with hx | hx
            · omega
            · have := hL0 _ hx
              have hz9 : w.heap.size ≤ wr.drew.heap.size := hzw
              omega)).tch tS (fun i hi _ => by rw [List.mem_singleton] at hi; rw [hi]; exact List.mem_cons_of_mem _ List.mem_cons_self)
        go_roundw
        case rel => exact ⟨2, v0, .slice aoN cN.length capN, v2, c0, cN, c2, by omega, by first | rfl | go_num, (hD.tch tN).set1 _, (hd0.tch tN (by simp)).tch tS (fun i hi _ => by rw [List.mem_singleton] at hi; rw [hi]; exact List.mem_cons_of_mem _ List.mem_cons_self), hnew, (hd2.tch tN (by simp)).tch tS (fun i hi _ => by rw [List.mem_singleton] at hi; rw [hi]; exact List.mem_cons_of_mem _ List.mem_cons_self), hk0.elim .inl (fun h => .inr (by omega)), .inl ⟨hrN, hlN1, hlN2⟩, hk2'.elim .inl (fun h => .inr (by omega)), (tD.then tN).setCell (.inr (by simp; omega)) _⟩
        case measure => simp [intOf]
      · have hC := fun xv l' (h1 : Raws wr.drew xv l') (h2 : l'.length ≤ 5000000000000) => hand_Code wr.drew (hG.tch tD) xv l' h1 h2 ⟨[4, 3], 3, [1, 2], c2⟩ (.slice (some ⟨w.heap.size + 1 + 1 + 1 + 1 + 1 + 1 + 1 + 1 + 1, 0, none⟩) 2 2) (.slice (some ⟨w.heap.size + 1, 0, none⟩) 2 4) v2 ((AppS.iQ2 hL0 hD).thin) ((AppS.iB2 hL0 hD).thin) (by simp) (by simp) (by simp) (by simp) (by simp) (.slice (some ⟨w.heap.size + 1 + 1 + 1 + 1 + 1 + 1 + 1 + 1 + 1 + 1, 0, none⟩) 3 3) _ hMths' (by simp) (by simp) (.slice (some ⟨w.heap.size + 1 + 1 + 1 + 1 + 1 + 1 + 1, 0, none⟩) 2 2) _ hImps' (by simp) (by simp)
        have y0 := hcM 8 (by omega)
        have y1 := hcM 9 (by omega)
        have y2 := hcM 10 (by omega)
        have y3 := hcM 11 (by omega)
        have fz := hfzM 11
        simp at y0 y1 y2 y3
        clear hcM hfzM
        go_upto_region 12 with fail
        refine wp_region_held_drew (S := fun w' => w'.cell? ⟨w.heap.size + 1 + 1 + 1 + 1, 2, none⟩ = some (.slice (some ⟨w.heap.size + 1 + 1 + 1 + 1 + 1 + 1 + 1, 0, none⟩) 2 2) ∧ w'.cell? ⟨w.heap.size + 1 + 1 + 1 + 1, 3, none⟩ = some (.slice (some ⟨w.heap.size + 1 + 1 + 1 + 1 + 1 + 1 + 1 + 1 + 1 + 1, 0, none⟩) 3 3)) (by kernel_rfl) ⟨x2, x3⟩ (fun hHeld => ?_)
        refine wpAnyH_take (i := 0) (v := ?_) rfl (by kernel_rfl) (by kernel_rfl) (by kernel_rfl) (fun _ _ _ h => h) (Or.inl ⟨by rfl, ?_⟩) (by assumption) ?_
        rotate_left
        · (intro w hSw; (try dsimp only at hSw); go_simp; try with_reducible rfl)
        try simp only [Act.put, List.setIfInBounds_toArray, List.set_cons_zero, List.set_cons_succ]
        refine wpAnyH_take (i := 1) (v := ?_) rfl (by kernel_rfl) (by kernel_rfl) (by kernel_rfl) (fun _ _ _ h => h) (Or.inl ⟨by rfl, ?_⟩) (by assumption) ?_
        rotate_left
        · (intro w hSw; (try dsimp only at hSw); go_simp; try with_reducible rfl)
        try simp only [Act.put, List.setIfInBounds_toArray, List.set_cons_zero, List.set_cons_succ]
        refine wpAnyH_take (i := 2) (v := ?_) rfl (by kernel_rfl) (by kernel_rfl) (by kernel_rfl) (fun _ _ _ h => h) (Or.inl ⟨by rfl, ?_⟩) (by assumption) ?_
        rotate_left
        · (intro w hSw; (try dsimp only at hSw); go_simp; try with_reducible rfl)
        try simp only [Act.put, List.setIfInBounds_toArray, List.set_cons_zero, List.set_cons_succ]
        refine wpAnyH_take (i := 3) (v := ?_) rfl (by kernel_rfl) (by kernel_rfl) (by kernel_rfl) (fun _ _ _ h => h) (Or.inl ⟨by rfl, ?_⟩) (by assumption) ?_
        rotate_left
        · (intro w hSw; (try dsimp only at hSw); go_simp; try with_reducible rfl)
        try simp only [Act.put, List.setIfInBounds_toArray, List.set_cons_zero, List.set_cons_succ]
        refine wpAnyH_take (i := 4) (v := ?_) rfl (by kernel_rfl) (by kernel_rfl) (by kernel_rfl) (fun _ _ _ h => h) (Or.inl ⟨by rfl, ?_⟩) (by assumption) ?_
        rotate_left
        · (intro w hSw; (try dsimp only at hSw); go_simp; try with_reducible rfl)
        try simp only [Act.put, List.setIfInBounds_toArray, List.set_cons_zero, List.set_cons_succ]
        refine wpAnyH_take (i := 5) (v := ?_) rfl (by kernel_rfl) (by kernel_rfl) (by kernel_rfl) (fun _ _ _ h => h) (Or.inl ⟨by rfl, ?_⟩) (by assumption) ?_
        rotate_left
        · (intro w hSw; (try dsimp only at hSw); go_simp; try with_reducible rfl)
        try simp only [Act.put, List.setIfInBounds_toArray, List.set_cons_zero, List.set_cons_succ]
        refine wpAnyH_take (i := 6) (v := ?_) rfl (by kernel_rfl) (by kernel_rfl) (by kernel_rfl) (fun _ _ _ h => h) (Or.inl ⟨by rfl, ?_⟩) (by assumption) ?_
        rotate_left
        · (intro w hSw; (try dsimp only at hSw); go_simp; try with_reducible rfl)
        try simp only [Act.put, List.setIfInBounds_toArray, List.set_cons_zero, List.set_cons_succ]
        refine wpAnyH_take (i := 7) (v := ?_) rfl (by kernel_rfl) (by kernel_rfl) (by kernel_rfl) (fun _ _ _ h => h) (Or.inl ⟨by rfl, ?_⟩) (by assumption) ?_
        rotate_left
        · (intro w hSw; (try dsimp only at hSw); go_simp; try with_reducible rfl)
        try simp only [Act.put, List.setIfInBounds_toArray, List.set_cons_zero, List.set_cons_succ]
        refine wpAnyH_take (i := 9) (v := ?_) rfl (by kernel_rfl) (by kernel_rfl) (by kernel_rfl) (fun _ _ _ h => h) (Or.inl ⟨by rfl, ?_⟩) (by assumption) ?_
        rotate_left
        · (intro w hSw; (try dsimp only at hSw); go_simp; try with_reducible rfl)
        try simp only [Act.put, List.setIfInBounds_toArray, List.set_cons_zero, List.set_cons_succ]
        refine wpAnyH_take (i := 10) (v := ?_) rfl (by kernel_rfl) (by kernel_rfl) (by kernel_rfl) (fun _ _ _ h => h) (Or.inl ⟨by rfl, ?_⟩) (by assumption) ?_
        rotate_left
        · (intro w hSw; (try dsimp only at hSw); go_simp; try with_reducible rfl)
        try simp only [Act.put, List.setIfInBounds_toArray, List.set_cons_zero, List.set_cons_succ]
        refine wpAnyH_take (i := 11) (v := ?_) rfl (by kernel_rfl) (by kernel_rfl) (by kernel_rfl) (fun _ _ _ h => h) (Or.inl ⟨by rfl, ?_⟩) (by assumption) ?_
        rotate_left
        · (intro w hSw; (try dsimp only at hSw); go_simp; try with_reducible rfl)
        try simp only [Act.put, List.setIfInBounds_toArray, List.set_cons_zero, List.set_cons_succ]
        refine wpAnyH_take (i := 12) (v := ?_) rfl (by kernel_rfl) (by kernel_rfl) (by kernel_rfl) (fun _ _ _ h => h) (Or.inl ⟨by rfl, ?_⟩) (by assumption) ?_
        rotate_left
        · (intro w hSw; (try dsimp only at hSw); go_simp; try with_reducible rfl)
        try simp only [Act.put, List.setIfInBounds_toArray, List.set_cons_zero, List.set_cons_succ]
        refine wpAnyH_ready (rs := [8]) (by kernel_rfl) (by simp) ?_
        refine AllReadyH.cons rfl (fun K hK => ?_) AllReadyH.nil
        go_simp
        refine hK.out _ _ (⟨x2, x3⟩) (fun hHeld => ?_)
        clear hK K
        try simp only [Act.put, List.setIfInBounds_toArray, List.set_cons_zero, List.set_cons_succ]
        refine wpAnyH_ready (rs := [13]) (by kernel_rfl) (by simp) ?_
        refine AllReadyH.cons rfl (fun K hK => ?_) AllReadyH.nil
        go_simp
        go_at_call 28
        refine (hC _ _ (hRd.cut _ _ (by (repeat' split) <;> omega) (by (repeat' split) <;> omega) hcp) (by simp only [List.length_drop, List.length_take]; omega)).mono ?_
        rintro e w5 ⟨cN, aoN, capN, rfl, hoN, hfN, hrN, hlN1, hlN2, tN⟩
        have y3n := (show w5.cell? ⟨w.heap.size + 1 + 1 + 1 + 1 + 1 + 1 + 1 + 1 + 1 + 1, 11, none⟩ = some v2 by rw [tN.cell (cell_lt y3) (by simp)]; exact y3)
        have fzn := (show w5.frozen? ⟨w.heap.size + 1 + 1 + 1 + 1 + 1 + 1 + 1 + 1 + 1 + 1, 11, none⟩ = false by rw [tN.frozen (cell_lt y3) (by simp)]; exact fz)
        have x2n := (show w5.cell? ⟨w.heap.size + 1 + 1 + 1 + 1, 2, none⟩ = some (.slice (some ⟨w.heap.size + 1 + 1 + 1 + 1 + 1 + 1 + 1, 0, none⟩) 2 2) by rw [tN.cell (cell_lt x2) (by simp)]; exact x2)
        have x3n := (show w5.cell? ⟨w.heap.size + 1 + 1 + 1 + 1, 3, none⟩ = some (.slice (some ⟨w.heap.size + 1 + 1 + 1 + 1 + 1 + 1 + 1 + 1 + 1 + 1, 0, none⟩) 3 3) by rw [tN.cell (cell_lt x3) (by simp)]; exact x3)
        have tS := (Tch.refl [w.heap.size + 1 + 1 + 1 + 1 + 1 + 1 + 1 + 1 + 1 + 1] w5).setCell (p := ⟨w.heap.size + 1 + 1 + 1 + 1 + 1 + 1 + 1 + 1 + 1 + 1, 11, none⟩) (.inl (by simp)) (.slice aoN cN.length capN)
        have x2s := (tS.cell (cell_lt x2n) (by simp)).trans x2n
        have x3s := (tS.cell (cell_lt x3n) (by simp)).trans x3n
        refine hK.out _ _ (⟨x2n, x3n⟩) (fun hHeld => ?_)
        clear hK K
        try simp only [Act.put, List.setIfInBounds_toArray, List.set_cons_zero, List.set_cons_succ]
        refine wpAnyH_take (i := 14) (v := ?_) rfl (by kernel_rfl) (by kernel_rfl) (by kernel_rfl) (fun _ _ _ h => h) (Or.inl ⟨by rfl, ?_⟩) (by assumption) ?_
        rotate_left
        · (intro w hSw; (try dsimp only at hSw); go_simp; try with_reducible rfl)
        try simp only [Act.put, List.setIfInBounds_toArray, List.set_cons_zero, List.set_cons_succ]
        refine wpAnyH_take (i := 15) (v := ?_) rfl (by kernel_rfl) (by kernel_rfl) (by kernel_rfl) (fun _ _ _ h => h) (Or.inl ⟨by rfl, ?_⟩) (by assumption) ?_
        rotate_left
        · (intro w hSw; (try dsimp only at hSw); go_simp; try with_reducible rfl)
        try simp only [Act.put, List.setIfInBounds_toArray, List.set_cons_zero, List.set_cons_succ]
        refine wpAnyH_ready (rs := [16]) (by kernel_rfl) (by simp) ?_
        refine AllReadyH.cons rfl (fun K hK => ?_) AllReadyH.nil
        go_simp
        refine hK.out _ _ (⟨x2s, x3s⟩) (fun hHeld => ?_)
        clear hK K
        try simp only [Act.put, List.setIfInBounds_toArray, List.set_cons_zero, List.set_cons_succ]
        refine wpAnyH_done (by kernel_rfl) ?_ _
        go_wp2_with fail
        have hlt := (World.ownsRow.lt hD.hM (w.heap.size + 1 + 1 + 1 + 1 + 1 + 1 + 1 + 1 + 1 + 1) rfl).2
        have hnew := (src_of_owns hoN (w.heap.size :: (w.heap.size + 1 + 1 + 1 + 1 + 1 + 1 + 1 + 1 + 1 + 1) :: L0) (fun g hg hx => by
          have := hfN g hg
          rcases List.mem_cons.1 hx with hx | hx
          · omega
          · rcases List.mem_cons.1 hx with hx | hx
            · omega
            · have := hL0 _ hx
              have hz9 : w.heap.size ≤ wr.drew.heap.size := hzw
              omega)).tch tS (fun i hi _ => by rw [List.mem_singleton] at hi; rw [hi]; exact List.mem_cons_of_mem _ List.mem_cons_self)
        go_roundw
        case rel => exact ⟨3, v0, v1, .slice aoN cN.length capN, c0, c1, cN, by omega, by first | rfl | go_num, (hD.tch tN).set2 _, (hd0.tch tN (by simp)).tch tS (fun i hi _ => by rw [List.mem_singleton] at hi; rw [hi]; exact List.mem_cons_of_mem _ List.mem_cons_self), (hd1.tch tN (by simp)).tch tS (fun i hi _ => by rw [List.mem_singleton] at hi; rw [hi]; exact List.mem_cons_of_mem _ List.mem_cons_self), hnew, hk0.elim .inl (fun h => .inr (by omega)), hk1'.elim .inl (fun h => .inr (by omega)), .inl ⟨hrN, hlN1, hlN2⟩, (tD.then tN).setCell (.inr (by simp; omega)) _⟩
        case measure => simp [intOf]
    · have hR := hS.hR
      have hX := hS.hX
      have x0 : wr.cell? ⟨w.heap.size + 1 + 1 + 1 + 1, 0, none⟩ = some _ := (cell_of_row wr _ 0 _ _ _ hX).trans rfl
      have x1 : wr.cell? ⟨w.heap.size + 1 + 1 + 1 + 1, 1, none⟩ = some _ := (cell_of_row wr _ 1 _ _ _ hX).trans rfl
      have x2 : wr.cell? ⟨w.heap.size + 1 + 1 + 1 + 1, 2, none⟩ = some _ := (cell_of_row wr _ 2 _ _ _ hX).trans rfl
      have x3 : wr.cell? ⟨w.heap.size + 1 + 1 + 1 + 1, 3, none⟩ = some _ := (cell_of_row wr _ 3 _ _ _ hX).trans rfl
      have x4 : wr.cell? ⟨w.heap.size + 1 + 1 + 1 + 1, 4, none⟩ = some _ := (cell_of_row wr _ 4 _ _ _ hX).trans rfl
      have y0 : wr.cell? ⟨w.heap.size, 0, none⟩ = some _ := (cell_of_row wr _ 0 _ _ _ hR).trans rfl
      have y1 : wr.cell? ⟨w.heap.size, 1, none⟩ = some _ := (cell_of_row wr _ 1 _ _ _ hR).trans rfl
      have y2 : wr.cell? ⟨w.heap.size, 2, none⟩ = some _ := (cell_of_row wr _ 2 _ _ _ hR).trans rfl
      have y3 : wr.cell? ⟨w.heap.size, 3, none⟩ = some _ := (cell_of_row wr _ 3 _ _ _ hR).trans rfl
      have y4 : wr.cell? ⟨w.heap.size, 4, none⟩ = some _ := (cell_of_row wr _ 4 _ _ _ hR).trans rfl
      have hfz : ∀ j, wr.frozen? ⟨w.heap.size, j, none⟩ = false := fun j => by simp [World.frozen?, hR]
      have f0 := hfz 0
      have f1 := hfz 1
      have f2 := hfz 2
      have f3 := hfz 3
      have f4 := hfz 4
      clear hX hR hfz
      go_wp2_with fail
      have hm3e : m = 3 := by omega
      subst hm3e
      have tZ : Tch [w.heap.size] wr (((((wr.setCell ⟨w.heap.size, 0, none⟩ (.string ⟨n0.toArray⟩)).setCell ⟨w.heap.size, 1, none⟩ (.slice (some ⟨w.heap.size + 1 + 1, 0, none⟩) 4 4)).setCell ⟨w.heap.size, 2, none⟩ (.slice (some ⟨w.heap.size + 1 + 1 + 1 + 1 + 1 + 1 + 1, 0, none⟩) 2 2)).setCell ⟨w.heap.size, 3, none⟩ (.slice (some ⟨w.heap.size + 1 + 1 + 1 + 1 + 1 + 1 + 1 + 1 + 1 + 1, 0, none⟩) 3 3)).setCell ⟨w.heap.size, 4, none⟩ (.slice (some ⟨w.heap.size + 1 + 1 + 1, 0, none⟩) 2 2)) := (((((Tch.refl [w.heap.size] wr).setCell (.inl (by simp)) _).setCell (.inl (by simp)) _).setCell (.inl (by simp)) _).setCell (.inl (by simp)) _).setCell (.inl (by simp)) _
      obtain ⟨Z, hZ⟩ : ∃ Z, Z = (((((wr.setCell ⟨w.heap.size, 0, none⟩ (.string ⟨n0.toArray⟩)).setCell ⟨w.heap.size, 1, none⟩ (.slice (some ⟨w.heap.size + 1 + 1, 0, none⟩) 4 4)).setCell ⟨w.heap.size, 2, none⟩ (.slice (some ⟨w.heap.size + 1 + 1 + 1 + 1 + 1 + 1 + 1, 0, none⟩) 2 2)).setCell ⟨w.heap.size, 3, none⟩ (.slice (some ⟨w.heap.size + 1 + 1 + 1 + 1 + 1 + 1 + 1 + 1 + 1 + 1, 0, none⟩) 3 3)).setCell ⟨w.heap.size, 4, none⟩ (.slice (some ⟨w.heap.size + 1 + 1 + 1, 0, none⟩) 2 2)) := ⟨_, rfl⟩
      have z0 : Z.cell? ⟨w.heap.size, 0, none⟩ = some (.string ⟨n0.toArray⟩) := by rw [hZ]; simp [go_sem, y0]
      have z1 : Z.cell? ⟨w.heap.size, 1, none⟩ = some (.slice (some ⟨w.heap.size + 1 + 1, 0, none⟩) 4 4) := by rw [hZ]; simp [go_sem, y1]
      have z2 : Z.cell? ⟨w.heap.size, 2, none⟩ = some (.slice (some ⟨w.heap.size + 1 + 1 + 1 + 1 + 1 + 1 + 1, 0, none⟩) 2 2) := by rw [hZ]; simp [go_sem, y2]
      have z3 : Z.cell? ⟨w.heap.size, 3, none⟩ = some (.slice (some ⟨w.heap.size + 1 + 1 + 1 + 1 + 1 + 1 + 1 + 1 + 1 + 1, 0, none⟩) 3 3) := by rw [hZ]; simp [go_sem, y3]
      have z4 : Z.cell? ⟨w.heap.size, 4, none⟩ = some (.slice (some ⟨w.heap.size + 1 + 1 + 1, 0, none⟩) 2 2) := by rw [hZ]; simp [go_sem, y4]
      rw [← hZ] at tZ ⊢
      clear hZ y0 y1 y2 y3 y4 x0 x1 x2 x3 x4 f0 f1 f2 f3 f4
      refine bodyPost_ret (v := .agg #[.string ⟨n0.toArray⟩, .slice (some ⟨w.heap.size + 1 + 1, 0, none⟩) 4 4, .slice (some ⟨w.heap.size + 1 + 1 + 1 + 1 + 1 + 1 + 1, 0, none⟩) 2 2, .slice (some ⟨w.heap.size + 1 + 1 + 1 + 1 + 1 + 1 + 1 + 1 + 1 + 1, 0, none⟩) 3 3, .slice (some ⟨w.heap.size + 1 + 1 + 1, 0, none⟩) 2 2]) (by simp [results, go_sem, z0, z1, z2, z3, z4]) rfl ?_
      have hcm : ∀ v c, RCode wr (w.heap.size :: (w.heap.size + 1 + 1 + 1 + 1 + 1 + 1 + 1 + 1 + 1 + 1) :: L0) v c → RCode wr (w.heap.size :: L0) v c := fun v c h => Src.mono h (fun i hi _ => by
        rcases List.mem_cons.1 hi with hi | hi
        · exact hi ▸ List.mem_cons_self
        · exact List.mem_cons_of_mem _ (List.mem_cons_of_mem _ hi))
      have hI := (AppS.img hL0 hS (hcm _ _ hc0) (hcm _ _ hc1) (hcm _ _ hc2)).tch tZ (fun i hi _ => by rw [List.mem_singleton] at hi; rw [hi]; exact List.mem_cons_self)
      refine ⟨_, c0, c1, c2, rfl, ?_, hk0.resolve_right (by omega), hk1'.resolve_right (by omega), hk2'.resolve_right (by omega), ht.trans tZ (by simp) (fun i hi hx => by simp at hx; omega)⟩
      unfold appI
      rw [hn0, hn1, hn2]
      exact hI.mono (fun i hi _ => List.mem_cons_of_mem _ hi)
end Go.Proofs.YteebapopeaafhaaGreatDoor
namespace Go.Proofs.YteebapopeaafhaaGreatDoor
open Go.RowKit Go.Tcn
set_option linter.unusedVariables false
set_option linter.unusedSimpArgs false
theorem appP_z (k : Int) (n : Nat) (c0 c1 c2 : List Ins) (h0 : CodeOk c0) (h1 : CodeOk c1) (h2 : CodeOk c2) : ImgZ (appI k n c0 c1 c2) := by
  have hc : ∀ c : List Ins, CodeOk c → c.length ≤ 9223372036854775807 ∧ ∀ x ∈ c, I6 x.b := by
    intro c h
    obtain ⟨h1, h2, h3⟩ := h
    refine ⟨by omega, fun x hx => ?_⟩
    have hr := h1 x hx
    unfold rightI at hr
    have := of_decide_eq_true hr
    obtain ⟨_, _, _, _, hb⟩ := this
    unfold I6
    split at hb <;> omega
  have a0 := hc c0 h0
  have a1 := hc c1 h1
  have a2 := hc c2 h2
  unfold ImgZ appI
  refine ⟨by simp, by simp, ?_, by simp, ?_, by simp⟩
  · intro x hx
    simp at hx
    rcases hx with rfl | rfl <;> simp
  · intro m hm
    simp only [List.mem_cons, List.mem_nil_iff, or_false] at hm
    rcases hm with rfl | rfl | rfl
    · exact ⟨by simp, by simp, a0⟩
    · exact ⟨by simp, by simp, a1⟩
    · exact ⟨by simp, by simp, a2⟩
theorem appP_cod (k : Int) (n : Nat) (c0 c1 c2 : List Ins) (h0 : CodeOk c0) (h1 : CodeOk c1) (h2 : CodeOk c2) : (appI k n c0 c1 c2).methods.length = 3 ∧ (appI k n c0 c1 c2).fields.length ≤ 100 ∧ (appI k n c0 c1 c2).imports.length ≤ 100 ∧ (appI k n c0 c1 c2).exports.length ≤ 100 ∧ ∀ m ∈ (appI k n c0 c1 c2).methods, m.code.length ≤ 1000 ∧ CodZ m.code := by
  have hc : ∀ c : List Ins, CodeOk c → c.length ≤ 1000 ∧ CodZ c := by
    intro c h
    obtain ⟨h1, h2, h3⟩ := h
    exact ⟨by omega, fun x hx => right_z (h1 x hx)⟩
  have a0 := hc c0 h0
  have a1 := hc c1 h1
  have a2 := hc c2 h2
  unfold appI
  refine ⟨rfl, by simp, by simp, by simp, fun m hm => ?_⟩
  simp only [List.mem_cons, List.mem_nil_iff, or_false] at hm
  rcases hm with rfl | rfl | rfl
  · exact a0
  · exact a1
  · exact a2
theorem nameOfP_ok (k : Int) : nameB (nameOf k) = true := by
  unfold nameOf
  split
  · decide +kernel
  · split
    · decide +kernel
    · split
      · decide +kernel
      · decide +kernel
theorem appP_right (k : Int) (n : Nat) (c0 c1 c2 : List Ins) (h0 : CodeOk c0) (h1 : CodeOk c1) (h2 : CodeOk c2) : imgB (appI k n c0 c1 c2) = true := by
  obtain ⟨a0, b0, d0⟩ := h0
  obtain ⟨a1, b1, d1⟩ := h1
  obtain ⟨a2, b2, d2⟩ := h2
  have i0 : c0.all insB = true := List.all_eq_true.2 a0
  have i1 : c1.all insB = true := List.all_eq_true.2 a1
  have i2 : c2.all insB = true := List.all_eq_true.2 a2
  unfold imgB appI
  simp [nameOfP_ok, impB, mthB, i0, i1, i2, kindsB, kindB, resB, firstB, expB, b0, b1, b2, d0, d1, d2]
theorem bentP_z (i : Img) (ms' : List Mth) (hz : ImgZ i) (h : BentM i.methods ms') : ImgZ { i with methods := ms' } := by
  obtain ⟨z1, z2, z3, z4, z5, z6⟩ := hz
  obtain ⟨h1, h2⟩ := h
  refine ⟨z1, z2, z3, by simp only; omega, fun m hm => ?_, z6⟩
  obtain ⟨a, b, m0, hm0, e1, e2, e3⟩ := h2 m hm
  obtain ⟨y1, y2, y3, y4⟩ := z5 m0 hm0
  exact ⟨by rw [e1]; exact y1, by rw [e2]; exact y2, by omega, fun x hx => (b x hx).2.2⟩
set_option maxRecDepth 100000 in
theorem hand_AppX (w : World) (hG : Bins w 2) (k : Int) (hk : I6 k) (xv : Value) (l : List Rw) (hl : Raws w xv l) (hll : l.length ≤ 5000000000000) (hcap : ∀ ao n c, xv = .slice ao n c → n ≤ c) (L0 : List Nat) (hL0 : ∀ i ∈ L0, i < w.heap.size) :
    Calls Tryz.prog 9 #[.int .i64 k, xv] w fun e w' => ∃ (i : Img) (vf vi vm ve : Value), e = .returned (.agg #[.string ⟨i.name.toArray⟩, vf, vi, vm, ve]) ∧ RInts w' L0 vf i.fields ∧ RImps w' L0 vi i.imports ∧ RMths w' L0 vm i.methods ∧ RInts w' L0 ve i.exports ∧ ImgZ i ∧ imgB i = true ∧ i.methods.length = 3 ∧ (∀ m ∈ i.methods, m.code.length ≤ 1000 ∧ CodZ m.code) ∧ Tch [] w w' := by
  refine (hand_Applet w hG k hk xv l hl hll hcap L0 hL0).mono ?_
  rintro e w1 ⟨cs, c0, c1, c2, rfl, ⟨vf, vi, vm, ve, hcs, r1, r2, r3, r4⟩, k0, k1, k2, t1⟩
  have hz := appP_z k l.length c0 c1 c2 k0 k1 k2
  have hb := appP_right k l.length c0 c1 c2 k0 k1 k2
  obtain ⟨hm3, _, _, _, hcod⟩ := appP_cod k l.length c0 c1 c2 k0 k1 k2
  generalize appI k l.length c0 c1 c2 = i at *
  obtain rfl : cs = #[.string ⟨i.name.toArray⟩, vf, vi, vm, ve] := by
    apply Array.toList_inj.1
    rw [hcs]
    rfl
  exact ⟨i, vf, vi, vm, ve, rfl, r1, r2, r3, r4, hz, hb, hm3, hcod, t1⟩
end Go.Proofs.YteebapopeaafhaaGreatDoor
