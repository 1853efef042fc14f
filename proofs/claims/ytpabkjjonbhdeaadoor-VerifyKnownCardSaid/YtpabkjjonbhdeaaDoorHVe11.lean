/-
  CONTRACTS: verify: run. Conditions: code of 1 to 100000 instructions.
-/
import Derived.Test.YtpabkjjonbhdeaaDoorHVe10
import Derived.Deep.LoopGhost
namespace Go.Proofs.YtpabkjjonbhdeaaDoor
open Go.RowKit Go.Tcn
set_option linter.unusedVariables false
set_option linter.unusedSimpArgs false
def zeroF (n : Nat) : VS := ⟨List.replicate n [], List.replicate n false, List.replicate n false⟩
theorem go_zero (n : Nat) (h : 1 ≤ n) : goF n (zeroF n) 0 [] = .ok (initF n) := by
  unfold goF
  obtain ⟨k, rfl⟩ : ∃ k, n = k + 1 := ⟨n - 1, by omega⟩
  rw [if_neg (by omega), if_pos (by rfl)]
  rfl
/-- Where a method's walk ends, and with what state. -/
def RunsTo (i : Img) (m : Mth) (r : Nat × Int) (τ : VS) : Prop := (∃ pc, m.code.findIdx? (fun x => !namesF i m x) = some pc ∧ r = (pc, 9)) ∨ (m.code.findIdx? (fun x => !namesF i m x) = none ∧ ∃ fuel, runG i m fuel (initF m.code.length) = some (r, τ))
theorem runs_lim {i : Img} {m : Mth} {r : Nat × Int} {τ : VS} (h : RunsTo i m r τ) : ∃ lim, lim ≤ m.code.length ∧ (∀ k (hk : k < m.code.length), k < lim → namesF i m m.code[k] = true) ∧ (∀ hk : lim < m.code.length, namesF i m m.code[lim] = false ∧ r = (lim, 9) ∧ ¬ m.code.findIdx? (fun x => !namesF i m x) = none) ∧ (lim = m.code.length → m.code.findIdx? (fun x => !namesF i m x) = none ∧ ∃ fuel, runG i m fuel (initF m.code.length) = some (r, τ)) := by
  rcases h with ⟨pc, h1, h2⟩ | ⟨h1, h2⟩
  · have h3 := h1
    rw [List.findIdx?_eq_some_iff_getElem] at h1
    obtain ⟨a, b, c⟩ := h1
    refine ⟨pc, by omega, fun k hk hl => ?_, fun hk => ⟨by simpa using b, h2, by rw [h3]; simp⟩, fun e => by omega⟩
    have := c k hl
    simpa using this
  · have h3 := h1
    rw [List.findIdx?_eq_none_iff] at h1
    exact ⟨m.code.length, by omega, fun k hk _ => by have := h1 _ (List.getElem_mem hk); simpa using this, fun hk => by omega, fun _ => ⟨h3, h2⟩⟩
theorem idx_first (l : List Bool) : ∀ k, idxT l k = match firstT l with | none => -1 | some j => ((k + j : Nat) : Int) := by
  induction l with
  | nil => intro k; rfl
  | cons b l ih =>
    intro k
    unfold idxT firstT
    rw [List.findIdx?_cons]
    cases b
    · rw [if_neg (by simp), ih (k + 1)]
      unfold firstT
      cases l.findIdx? id with
      | none => rfl
      | some j =>
        show ((k + 1 + j : Nat) : Int) = ((k + (j + 1) : Nat) : Int)
        congr 1
        omega
    · simp
theorem first_none {l : List Bool} (h : firstT l = none) : idxT l 0 = -1 := by rw [idx_first, h]
theorem first_some {l : List Bool} {j : Nat} (h : firstT l = some j) : idxT l 0 = (j : Int) ∧ j < l.length := by
  refine ⟨by rw [idx_first, h]; simp, ?_⟩
  unfold firstT at h
  rw [List.findIdx?_eq_some_iff_getElem] at h
  exact h.1
theorem kinds_or (i : Img) (m : Mth) (x : Ins) (l : List Int) {k : Int} (h : doF i m x l = .error k) : k ≠ 0 := by
  unfold doF at h
  simp only at h
  split at h
  · simp only [Except.error.injEq] at h; omega
  · split at h
    · rename_i h2; simp only [Except.error.injEq] at h; rw [← h]; exact h2
    · split at h
      · rename_i h3; simp only [Except.error.injEq] at h; rw [← h]; exact h3
      · cases h
theorem go_err {n pc : Nat} {σ : VS} {st : List Int} {k : Int} (h : goF n σ pc st = .error k) : k ≠ 0 := by
  unfold goF at h
  split at h
  · simp only [Except.error.injEq] at h; omega
  · split at h
    · cases h
    · split at h
      · simp only [Except.error.injEq] at h; omega
      · split at h <;> cases h
/-- What a round gives. -/
def outF (i : Img) (m : Mth) (σ : VS) (pc : Nat) : Except Int VS :=
  match doF i m (m.code.getD pc ⟨0, 0, 0⟩) (σ.sts.getD pc []) with
  | .error e => .error e
  | .ok st => goAll m.code.length (nextF (m.code.getD pc ⟨0, 0, 0⟩) pc) ⟨σ.sts, σ.has, σ.todo.set pc false⟩ st
theorem run_none {i : Img} {m : Mth} {g : Nat} {σ τ : VS} {r : Nat × Int} (h : runG i m g σ = some (r, τ)) (hf : firstT σ.todo = none) : r = (0, 0) ∧ τ = σ := by
  cases g with
  | zero => cases h
  | succ g =>
    unfold runG stepF at h
    rw [hf] at h
    simp only [Option.some.injEq, Prod.mk.injEq] at h
    exact ⟨h.1.symm, h.2.symm⟩
theorem run_some {i : Img} {m : Mth} {g pc : Nat} {σ τ : VS} {r : Nat × Int} (h : runG i m g σ = some (r, τ)) (hf : firstT σ.todo = some pc) :
    (∃ k, outF i m σ pc = .error k ∧ r = (pc, k) ∧ τ = σ) ∨ ∃ σ' g', outF i m σ pc = .ok σ' ∧ g' < g ∧ runG i m g' σ' = some (r, τ) := by
  cases g with
  | zero => cases h
  | succ g =>
    unfold runG stepF at h
    rw [hf] at h
    simp only at h
    unfold outF
    cases hd : doF i m (m.code.getD pc ⟨0, 0, 0⟩) (σ.sts.getD pc []) with
    | error k =>
      rw [hd] at h
      simp only [Option.some.injEq, Prod.mk.injEq] at h
      exact .inl ⟨k, rfl, h.1.symm, h.2.symm⟩
    | ok st =>
      rw [hd] at h
      simp only at h ⊢
      cases hg : goAll m.code.length (nextF (m.code.getD pc ⟨0, 0, 0⟩) pc) ⟨σ.sts, σ.has, σ.todo.set pc false⟩ st with
      | error k =>
        rw [hg] at h
        simp only [Option.some.injEq, Prod.mk.injEq] at h
        exact .inl ⟨k, rfl, h.1.symm, h.2.symm⟩
      | ok σ' =>
        rw [hg] at h
        exact .inr ⟨σ', g, rfl, by omega, h⟩
/-- Inside a round, with some of what may come next done: the error, or the state. -/
def MidR (wz : World) (V : WV) (n : Nat) (nx : List Nat) (R : Except Int VS) (v : Value) (j : Nat) (ke : Int) : Prop :=
  (ke ≠ 0 ∧ R = .error ke) ∨ (ke = 0 ∧ ∃ (l : List Int) (ao : Option Addr) (cap : Nat) (σj : VS), v = .slice ao l.length cap ∧ RInts wz V.ms (.slice ao l.length cap) l ∧ l.length ≤ 8 ∧ StR wz V n σj ∧ R = goAll n (nx.drop j) σj l)
theorem MidR.more {wz : World} {V : WV} {n : Nat} {nx : List Nat} {R : Except Int VS} {v : Value} {j : Nat} {ke : Int} (h : MidR wz V n nx R v j ke) (hk : ke ≠ 0) (j' : Nat) : MidR wz V n nx R v j' ke := by
  rcases h with h | ⟨h, _⟩
  · exact .inl h
  · exact absurd h hk
theorem MidR.tch {w1 w2 : World} {V : WV} {n : Nat} {nx : List Nat} {R : Except Int VS} {v : Value} {j : Nat} {ke : Int} (h : MidR w1 V n nx R v j ke) (t : Tch [] w1 w2) : MidR w2 V n nx R v j ke := by
  rcases h with h | ⟨h1, l, ao, cap, σj, h2, h3, h4, h5, h6⟩
  · exact .inl h
  · exact .inr ⟨h1, l, ao, cap, σj, h2, h3.tch t (by simp), h4, h5.tch t, h6⟩
/-- What was done, in one form. -/
theorem done_one {w w' : World} {e : Ending} {D : Except Int (List Int)} (h : DoneR w w' e D) (hne : ∀ k, D = .error k → k ≠ 0) (h8 : ∀ l, D = .ok l → l.length ≤ 8) (M : List Nat) (hM : ∀ i ∈ M, i < w.heap.size) :
    ∃ v k, e = .returned (.tuple #[v, .int .i64 k]) ∧ ((k ≠ 0 ∧ D = .error k) ∨ (k = 0 ∧ ∃ l ao cap, v = .slice ao l.length cap ∧ D = .ok l ∧ RInts w' M (.slice ao l.length cap) l ∧ l.length ≤ 8)) := by
  cases D with
  | error k => exact ⟨_, k, h, .inl ⟨hne k rfl, rfl⟩⟩
  | ok l =>
    obtain ⟨ao, cap, h1, h2⟩ := h
    exact ⟨_, 0, h1, .inr ⟨rfl, l, ao, cap, rfl, rfl, h2 M hM, h8 l rfl⟩⟩
/-- Where it went, in one form. -/
def WentR (w' : World) (V : WV) (n : Nat) (G : Except Int VS) (k : Int) : Prop := (k ≠ 0 ∧ G = .error k) ∨ (k = 0 ∧ ∃ σ, G = .ok σ ∧ StR w' V n σ)
theorem goes_one {w' : World} {e : Ending} {V : WV} {n : Nat} {G : Except Int VS} (h : GoesR w' e V n G) (hne : ∀ k, G = .error k → k ≠ 0) : ∃ k, e = .returned (.int .i64 k) ∧ WentR w' V n G k := by
  cases G with
  | error k => exact ⟨k, h, .inl ⟨hne k rfl, rfl⟩⟩
  | ok σ => exact ⟨0, h.1, .inr ⟨rfl, σ, rfl, h.2⟩⟩
theorem MidR.step {w' : World} {V : WV} {n pc : Nat} {nx : List Nat} {R : Except Int VS} {v : Value} {j : Nat} {k : Int} {l : List Int} {ao : Option Addr} {cap : Nat} {σj : VS} (hv : v = .slice ao l.length cap) (hr : RInts w' V.ms (.slice ao l.length cap) l) (h8 : l.length ≤ 8) (hR : R = goAll n (nx.drop j) σj l) (hj : j < nx.length) (hpc : nx[j] = pc) (hw : WentR w' V n (goF n σj pc l) k) : MidR w' V n nx R v (j + 1) k := by
  rw [List.drop_eq_getElem_cons hj, hpc] at hR
  unfold goAll at hR
  rcases hw with ⟨h1, h2⟩ | ⟨h1, σ, h2, h3⟩
  · rw [h2] at hR
    exact .inl ⟨h1, hR⟩
  · rw [h2] at hR
    exact .inr ⟨h1, l, ao, cap, σ, hv, hr, h8, h3, hR⟩
/-- The state at the end, where nothing is refused. -/
def EndR (w' : World) (V : WV) (m : Mth) (r : Nat × Int) (τ : VS) : Prop := r.2 = 0 → StR w' V m.code.length τ
set_option maxRecDepth 100000 in
set_option maxHeartbeats 16000000 in
theorem ve_run (w : World) (p : Nat) (i : Img) (m : Mth) (V : WV) (h : WkR w 54 p V.ms i m V) (hp : p ∉ V.ms) (hσ : StR w V m.code.length (zeroF m.code.length)) (hn1 : 1 ≤ m.code.length) (hcl : m.code.length ≤ 10000) (hx : ∀ x ∈ m.code, 1 ≤ x.op ∧ x.op ≤ 39 ∧ 0 ≤ x.a ∧ x.a ≤ 4294967295) (hts : ∀ x ∈ m.code, (takesF i m x).length ≤ 1000) (r : Nat × Int) (τ : VS) (hr : RunsTo i m r τ) :
    Calls Tryd.prog 15 #[.pointer (some ⟨p, 0, none⟩)] w fun e w' => e = .returned (.tuple #[.int .i64 (r.1 : Int), .int .i64 r.2]) ∧ EndR w' V m r τ ∧ Tch V.ms w w' := by
  have hMs : ∀ k ∈ V.ms, k < w.heap.size := fun k hk => by
    simp only [WV.ms, List.mem_cons, List.mem_nil_iff, or_false] at hk
    obtain ⟨vs, _, v2, _⟩ := hσ.hb
    rcases hk with rfl | rfl | rfl
    · exact heap_lt v2
    · exact heap_lt hσ.hh
    · exact heap_lt hσ.ht
  have hWk := fun (W : World) (t : Tch V.ms w W) => h.tch t hp (fun _ hi _ => hi)
  obtain ⟨lim, l1, l2, l3, l4⟩ := runs_lim hr
  clear hr
  have c8 := h.c8
  have hSt := fun (W : World) (t : Tch [] w W) => hσ.tch t
  clear h hσ
  obtain ⟨n, hn⟩ : ∃ n, m.code.length = n := ⟨_, rfl⟩
  have HN := Lib.hid hn
  have HL := Lib.hid (And.intro l2 (And.intro l3 l4))
  obtain ⟨ad, hac⟩ : ∃ ad, V.ac = some ad := by
    obtain ⟨ad, hac, _, _⟩ := RCode.at (hWk w (Tch.refl _ _)).rc (k := 0) (by omega)
    exact ⟨ad, hac⟩
  have hAt : ∀ (W : World) (t : Tch V.ms w W) (k : Nat) (hk : k < m.code.length) (j : Nat) u, (#[.int .i64 m.code[k].op, .int .i64 m.code[k].a, .int .i64 m.code[k].b] : Array Value).toList[j]? = some u → W.cell? ((ad.add (k * 3)).add j) = some u := fun W t k hk => by
    obtain ⟨ad', e1, _, e2⟩ := RCode.at (hWk W t).rc hk
    rw [hac] at e1
    cases e1
    exact e2
  rw [hac] at c8
  have HAT := Lib.hid hAt
  have HAC := Lib.hid hac
  clear hac hAt
  rw [hn] at c8 l1 hn1 hcl
  clear l2 l3 l4 hn
  go_enter Tryd.func15, Tryd.ntmps15
  go_wp2_with fail
  go_loopw [18] (fun iv wz => ∃ k : Nat, k ≤ lim ∧ iv = .int .i64 k ∧ Tch [] w wz) (fun iv _ => lim + 1 - (intOf iv).toNat)
  case atStart => exact ⟨0, by omega, rfl, Tch.refl _ _⟩
  case round =>
    obtain ⟨k, hk1, rfl, t⟩ := hrel
    by_cases hk : k < n
    · have hkc : k < m.code.length := by rw [HN.out]; exact hk
      have hcc := HAT.out wr t.nil k hkc
      obtain ⟨xx, hxx⟩ : ∃ x, x = m.code[k] := ⟨_, rfl⟩
      have HX := Lib.hid hxx
      rw [← hxx] at hcc
      clear hxx
      obtain ⟨op, a, b⟩ := xx
      dsimp only at hcc
      have hNm := fun (W : World) (t' : Tch [] w W) => ve_names W p V.ms i m V (hWk W t'.nil) ⟨op, a, b⟩
      have hll := HL.out
      by_cases hkl : k < lim
      · have hnm := hll.1 k hkc hkl
        rw [← HX.out] at hnm
        rw [hnm] at hNm
        clear hll hnm
        go_upto_region 4 with (first | (refine wpList_load_agg rfl 24 (.tmp 21) rfl (ad.add (k * 3)) rfl #[.int .i64 op, .int .i64 a, .int .i64 b] _ hcc Tryd.underlying24 rfl (by kernel_rfl) ?_) | fail)
        obtain ⟨V1, hV1⟩ : ∃ W, W = wr.alloc (.cells #[.int .i64 op, .int .i64 a, .int .i64 b] 24) := ⟨_, rfl⟩
        have tV : Tch [] wr V1 := by rw [hV1]; exact (Tch.refl [] wr).alloc _
        have hB : V1.heap[wr.heap.size]? = some (.cells #[.int .i64 op, .int .i64 a, .int .i64 b] 24 (0, 0)) := by rw [hV1]; exact heap_alloc_new wr _
        obtain ⟨g, hg⟩ : ∃ g, g = wr.heap.size := ⟨_, rfl⟩
        rw [← hV1, ← hg]
        rw [← hg] at hB
        have hC1 := cells_of_heapW hB
        have hN1 := hNm V1 (t.then tV)
        clear hV1 hg hcc hNm
        go_wp2_with (first | (refine wpList_load_agg rfl 24 (.tmp 5) rfl ⟨g, 0, none⟩ rfl #[.int .i64 op, .int .i64 a, .int .i64 b] _ hC1 Tryd.underlying24 rfl (by kernel_rfl) ?_) | fail)
        refine hN1.mono ?_
        rintro e w2 ⟨rfl, t2⟩
        clear hC1
        go_wp2_with fail
        go_roundw
        case rel => exact ⟨k + 1, by omega, by go_num, (t.then tV).then t2⟩
        case measure => simp [intOf]; omega
      · obtain rfl : k = lim := by omega
        obtain ⟨hnm, hrr, hnn⟩ := hll.2.1 hkc
        rw [← HX.out] at hnm
        rw [hnm] at hNm
        have HR := Lib.hid hrr
        have HNN := Lib.hid hnn
        clear hll hnm hrr hnn
        go_upto_region 4 with (first | (refine wpList_load_agg rfl 24 (.tmp 21) rfl (ad.add (k * 3)) rfl #[.int .i64 op, .int .i64 a, .int .i64 b] _ hcc Tryd.underlying24 rfl (by kernel_rfl) ?_) | fail)
        obtain ⟨V1, hV1⟩ : ∃ W, W = wr.alloc (.cells #[.int .i64 op, .int .i64 a, .int .i64 b] 24) := ⟨_, rfl⟩
        have tV : Tch [] wr V1 := by rw [hV1]; exact (Tch.refl [] wr).alloc _
        have hB : V1.heap[wr.heap.size]? = some (.cells #[.int .i64 op, .int .i64 a, .int .i64 b] 24 (0, 0)) := by rw [hV1]; exact heap_alloc_new wr _
        obtain ⟨g, hg⟩ : ∃ g, g = wr.heap.size := ⟨_, rfl⟩
        rw [← hV1, ← hg]
        rw [← hg] at hB
        have hC1 := cells_of_heapW hB
        have hN1 := hNm V1 (t.then tV)
        clear hV1 hg hcc hNm
        go_wp2_with (first | (refine wpList_load_agg rfl 24 (.tmp 5) rfl ⟨g, 0, none⟩ rfl #[.int .i64 op, .int .i64 a, .int .i64 b] _ hC1 Tryd.underlying24 rfl (by kernel_rfl) ?_) | fail)
        refine hN1.mono ?_
        rintro e w2 ⟨rfl, t2⟩
        clear hC1
        go_wp2_with fail
        go_ret2
        exact ⟨by rw [HR.out]; rfl, (show EndR w2 V m r τ from fun h0 => by rw [HR.out] at h0; cases h0), ((t.then tV).then t2).nil⟩
    · obtain rfl : k = lim := by omega
      obtain rfl : k = n := by omega
      obtain ⟨hno, fuel, hrun⟩ := HL.out.2.2 HN.out.symm
      have hgs := fun (W : World) (t' : Tch V.ms w W) => ve_goes W p i m V (hWk W t') hp
      rw [HN.out] at hrun hgs
      have hcl' := hcl
      have hg0 := hgs wr t.nil (zeroF k) (by have := hSt wr t; rw [HN.out] at this; exact this) 0 (by omega) (by omega) none 0 [] (show Src wr V.ms (.slice none 0 0) 0 [] from ⟨.inl ⟨rfl, rfl, rfl⟩⟩) (by simp)
      rw [go_zero k hn1] at hg0
      have hg1 : Calls Tryd.prog 27 #[.pointer (some ⟨p, 0, none⟩), .int .i64 0, .slice none 0 0] wr fun e w' => (e = .returned (.int .i64 0) ∧ StR w' V k (initF k)) ∧ Tch V.ms wr w' := hg0
      have HX0 := Lib.hid hx
      have HTS := Lib.hid hts
      have HRUN := Lib.hid hrun
      have hnall : ∀ (j : Nat) (hj : j < m.code.length), namesF i m m.code[j] = true := fun j hj => HL.out.1 j hj (by rw [HN.out] at hj; exact hj)
      have HNA := Lib.hid hnall
      have HGS := Lib.hid hgs
      clear hg0 hno hrun hx hts hnall hSt hgs HL
      obtain ⟨n, hkn⟩ : ∃ n, n = k := ⟨_, rfl⟩
      subst hkn
      go_wp2_with fail
      refine hg1.mono ?_
      rintro e w2 ⟨⟨rfl, hS0⟩, t2⟩
      have T2 : Tch V.ms w w2 := Tch.trans t t2 (by simp) (fun _ _ h => h)
      clear hg1
      go_wp2_with fail
      go_loopg [6] fuel (fun g s6 wz => ∃ σ, runG i m g σ = some (r, τ) ∧ StR wz V n σ ∧ Tch V.ms w wz)
      case atStart => exact ⟨initF n, HRUN.out, hS0, T2⟩
      case round =>
        obtain ⟨σ, hrg, hS, T⟩ := hrel
        clear HRUN hS0 T2 t2
        have wk := hWk wr T
        have d10 := wk.c10
        have d12 := wk.c12
        rw [HN.out] at d10 d12
        have hI := ve_Index wr V.bt σ.todo 4 hS.ht (by rw [hS.tl]; omega)
        rw [hS.tl] at hI
        have hfd : firstT σ.todo = none ∨ ∃ pc, firstT σ.todo = some pc := by
          cases firstT σ.todo with
          | none => exact .inl rfl
          | some j => exact .inr ⟨j, rfl⟩
        rcases hfd with hf | ⟨pc, hf⟩
        · obtain ⟨e1, e2⟩ := run_none hrg hf
          rw [first_none hf] at hI
          have HR := Lib.hid e1
          have HT := Lib.hid e2
          clear hf e1 e2 hrg wk
          go_wp2_with fail
          refine hI.mono ?_
          rintro e w' ⟨rfl, rfl⟩
          go_wp2_with fail
          go_ret2
          exact ⟨by rw [HR.out]; rfl, (show EndR wr V m r τ from fun _ => by rw [HT.out, HN.out]; exact hS), T⟩
        · have hrs := run_some hrg hf
          obtain ⟨hfi, hpc⟩ := first_some hf
          rw [hS.tl] at hpc
          rw [hfi] at hI
          have HRS := Lib.hid hrs
          clear hf hfi hrs hrg
          have hpcc : pc < m.code.length := by rw [HN.out]; exact hpc
          obtain ⟨xx, hxx⟩ : ∃ x, x = m.code[pc] := ⟨_, rfl⟩
          have hgd : m.code.getD pc ⟨0, 0, 0⟩ = xx := by rw [hxx]; simp [List.getD, List.getElem?_eq_getElem hpcc]
          have hrg := HX0.out _ (List.getElem_mem hpcc)
          have htk := HTS.out _ (List.getElem_mem hpcc)
          have hnm := HNA.out pc hpcc
          have hcc := HAT.out (wr.setCell ⟨V.bt, pc, none⟩ (.bool false)) (T.setCell (.inl (by simp [WV.ms])) _) pc hpcc
          rw [← hxx] at hrg htk hnm hcc
          clear hxx
          obtain ⟨op, a, b⟩ := xx
          dsimp only at hrg hcc
          have T1 : Tch V.ms w (wr.setCell ⟨V.bt, pc, none⟩ (.bool false)) := T.setCell (.inl (by simp [WV.ms])) _
          have t1 : Tch V.ms wr (wr.setCell ⟨V.bt, pc, none⟩ (.bool false)) := (Tch.refl V.ms wr).setCell (.inl (by simp [WV.ms])) _
          have S1 := hS.todos pc false
          have yt := hS.ct hpc
          have ft := hS.ft pc
          have c8w := wk.c8
          rw [HN.out, HAC.out] at c8w
          have e8 := (t1.cell (cell_lt c8w) hp).trans c8w
          have e10 := (t1.cell (cell_lt d10) hp).trans d10
          clear c8w wk d10
          obtain ⟨W1, hW1⟩ : ∃ W, W = wr.setCell ⟨V.bt, pc, none⟩ (.bool false) := ⟨_, rfl⟩
          rw [← hW1] at hcc T1 t1 S1 e8 e10
          go_wp2_with fail
          refine hI.mono ?_
          rintro e w' ⟨rfl, rfl⟩
          go_upto_region 12 with fail
          rw [← hW1]
          clear hI yt ft d12 hW1
          go_upto_region 13 with (first | (refine wpList_load_agg rfl 24 (.tmp 50) rfl (ad.add (pc * 3)) rfl #[.int .i64 op, .int .i64 a, .int .i64 b] _ hcc Tryd.underlying24 rfl (by kernel_rfl) ?_) | fail)
          obtain ⟨V2, hV2⟩ : ∃ W, W = W1.alloc (.cells #[.int .i64 op, .int .i64 a, .int .i64 b] 24) := ⟨_, rfl⟩
          have tV : Tch [] W1 V2 := by rw [hV2]; exact (Tch.refl [] W1).alloc _
          have hB : V2.heap[W1.heap.size]? = some (.cells #[.int .i64 op, .int .i64 a, .int .i64 b] 24 (0, 0)) := by rw [hV2]; exact heap_alloc_new W1 _
          obtain ⟨g7, hg7⟩ : ∃ g, g = W1.heap.size := ⟨_, rfl⟩
          rw [← hV2, ← hg7]
          rw [← hg7] at hB
          clear hV2 hg7 hcc e8
          have f10 := (tV.cell (cell_lt e10) (by simp)).trans e10
          have S2 := S1.tch tV
          have T2 : Tch V.ms w V2 := T1.trans tV (fun _ _ h => h) (by simp)
          obtain ⟨sa, sc, ys, rs, l8⟩ := S2.cs hpc
          try dsimp only at ys rs l8
          obtain ⟨cur, hcur⟩ : ∃ cur, cur = σ.sts.getD pc [] := ⟨_, rfl⟩
          rw [← hcur] at ys rs l8
          have xq0 : V2.cell? ⟨g7, 0, none⟩ = some (.int .i64 op) := by simp [World.cell?, hB]
          have xq1 : V2.cell? ⟨g7, 1, none⟩ = some (.int .i64 a) := by simp [World.cell?, hB]
          have xq2 : V2.cell? ⟨g7, 2, none⟩ = some (.int .i64 b) := by simp [World.cell?, hB]
          have hDo := fun (W : World) (t : Tch [] V2 W) => ve_do W p V.ms i m V (hWk W (T2.trans t (fun _ _ h => h) (by simp))) ⟨op, a, b⟩ hrg hnm sa sc cur (RInts.tch (rs.mono (by simp)) t (by simp)) l8 htk
          have hDo2 := fun (W W' : World) (t : Tch [] V2 W) (e : Ending) (hd : DoneR W W' e (doF i m ⟨op, a, b⟩ cur)) => done_one hd (fun k h => kinds_or i m _ _ h) (fun l h => do_le h) V.ms (fun k hk => Nat.lt_of_lt_of_le (Nat.lt_of_lt_of_le (hMs k hk) T2.size) t.size)
          have HOUT := Lib.hid (show outF i m σ pc = match doF i m ⟨op, a, b⟩ cur with | .error e => .error e | .ok st => goAll m.code.length (nextF ⟨op, a, b⟩ pc) ⟨σ.sts, σ.has, σ.todo.set pc false⟩ st by unfold outF; rw [hgd, hcur])
          clear hgd hcur rs e10 tV
          obtain ⟨D, hD⟩ : ∃ D, D = doF i m ⟨op, a, b⟩ cur := ⟨_, rfl⟩
          rw [← hD] at HOUT
          simp only [← hD] at hDo hDo2
          clear hD
          generalize cur.length = nc at *
          refine wp_region_held_drew (S := fun w' => w'.cell? ⟨p, 10, none⟩ = some (.slice (some ⟨V.bs, 0, none⟩) n n) ∧ w'.cell? ⟨V.bs, pc, none⟩ = some (.slice sa nc sc) ∧ w'.cell? ⟨g7, 0, none⟩ = some (.int .i64 op) ∧ w'.cell? ⟨g7, 1, none⟩ = some (.int .i64 a) ∧ w'.cell? ⟨g7, 2, none⟩ = some (.int .i64 b)) (by kernel_rfl) ⟨f10, ys, xq0, xq1, xq2⟩ (fun hHeld => ?_)
          have rD : Tch [] V2 V2.drew := (Tch.refl [] V2).drew
          obtain ⟨z0, hz0⟩ : ∃ z, z = V2.drew := ⟨_, rfl⟩
          rw [← hz0] at rD hHeld ⊢
          clear hz0
          refine wpAnyH_take (i := 0) (v := ?_) rfl (by kernel_rfl) (by kernel_rfl) (by kernel_rfl) (fun _ _ _ h => h) (Or.inl ⟨by rfl, ?_⟩) (by assumption) ?_
          rotate_left
          · (intro w hSw; (try dsimp only at hSw); go_simp; try with_reducible rfl)
          try simp only [Act.put, List.getElem_toArray, List.getElem_cons_succ, List.getElem_cons_zero, List.setIfInBounds_toArray, List.set_cons_zero, List.set_cons_succ]
          refine wpAnyH_take (i := 1) (v := ?_) rfl (by kernel_rfl) (by kernel_rfl) (by kernel_rfl) (fun _ _ _ h => h) (Or.inl ⟨by rfl, ?_⟩) (by assumption) ?_
          rotate_left
          · (intro w hSw; (try dsimp only at hSw); go_simp; try with_reducible rfl)
          try simp only [Act.put, List.getElem_toArray, List.getElem_cons_succ, List.getElem_cons_zero, List.setIfInBounds_toArray, List.set_cons_zero, List.set_cons_succ]
          refine wpAnyH_take (i := 2) (v := ?_) rfl (by kernel_rfl) (by kernel_rfl) (by kernel_rfl) (fun _ _ _ h => h) (Or.inl ⟨by rfl, ?_⟩) (by assumption) ?_
          rotate_left
          · (intro w hSw; (try dsimp only at hSw); go_simp; try with_reducible rfl)
          try simp only [Act.put, List.getElem_toArray, List.getElem_cons_succ, List.getElem_cons_zero, List.setIfInBounds_toArray, List.set_cons_zero, List.set_cons_succ]
          refine wpAnyH_take (i := 3) (v := ?_) rfl (by kernel_rfl) (by kernel_rfl) (by kernel_rfl) (fun _ _ _ h => h) (Or.inl ⟨by rfl, ?_⟩) (by assumption) ?_
          rotate_left
          · (intro w hSw; (try dsimp only at hSw); go_simp; try with_reducible rfl)
          try simp only [Act.put, List.getElem_toArray, List.getElem_cons_succ, List.getElem_cons_zero, List.setIfInBounds_toArray, List.set_cons_zero, List.set_cons_succ]
          refine wpAnyH_take (i := 4) (v := ?_) rfl (by kernel_rfl) (by kernel_rfl) (by kernel_rfl) (fun _ _ _ h => h) (Or.inl ⟨by rfl, ?_⟩) (by assumption) ?_
          rotate_left
          · (intro w hSw; (try dsimp only at hSw); go_simp; try with_reducible rfl)
          try simp only [Act.put, List.getElem_toArray, List.getElem_cons_succ, List.getElem_cons_zero, List.setIfInBounds_toArray, List.set_cons_zero, List.set_cons_succ]
          refine wpAnyH_take (i := 5) (v := ?_) rfl (by kernel_rfl) (by kernel_rfl) (by kernel_rfl) (fun _ _ _ h => h) (Or.inl ⟨by rfl, ?_⟩) (by assumption) ?_
          rotate_left
          · (intro w hSw; (try dsimp only at hSw); go_simp; try with_reducible rfl)
          try simp only [Act.put, List.getElem_toArray, List.getElem_cons_succ, List.getElem_cons_zero, List.setIfInBounds_toArray, List.set_cons_zero, List.set_cons_succ]
          refine wpAnyH_take (i := 6) (v := ?_) rfl (by kernel_rfl) (by kernel_rfl) (by kernel_rfl) (fun _ _ _ h => h) (Or.inl ⟨by rfl, ?_⟩) (by assumption) ?_
          rotate_left
          · (intro w hSw; (try dsimp only at hSw); go_simp; try with_reducible rfl)
          try simp only [Act.put, List.getElem_toArray, List.getElem_cons_succ, List.getElem_cons_zero, List.setIfInBounds_toArray, List.set_cons_zero, List.set_cons_succ]
          refine wpAnyH_take (i := 7) (v := ?_) rfl (by kernel_rfl) (by kernel_rfl) (by kernel_rfl) (fun _ _ _ h => h) (Or.inl ⟨by rfl, ?_⟩) (by assumption) ?_
          rotate_left
          · (intro w hSw; (try dsimp only at hSw); go_simp; try with_reducible rfl)
          try simp only [Act.put, List.getElem_toArray, List.getElem_cons_succ, List.getElem_cons_zero, List.setIfInBounds_toArray, List.set_cons_zero, List.set_cons_succ]
          refine wpAnyH_take (i := 8) (v := ?_) rfl (by kernel_rfl) (by kernel_rfl) (by kernel_rfl) (fun _ _ _ h => h) (Or.inl ⟨by rfl, ?_⟩) (by assumption) ?_
          rotate_left
          · (intro w hSw; (try dsimp only at hSw); go_simp; try with_reducible rfl)
          try simp only [Act.put, List.getElem_toArray, List.getElem_cons_succ, List.getElem_cons_zero, List.setIfInBounds_toArray, List.set_cons_zero, List.set_cons_succ]
          refine wpAnyH_ready (rs := [9]) (by kernel_rfl) (by simp) ?_
          refine AllReadyH.cons rfl (fun K hK => ?_) AllReadyH.nil
          go_simp
          go_at_call 29
          refine (hDo z0 rD).mono ?_
          rintro e w6 ⟨hd, t6⟩
          obtain ⟨v, ke, rfl, hd2⟩ := hDo2 z0 w6 rD e hd
          have T6 : Tch [] V2 w6 := rD.then t6
          try dsimp only
          clear hDo hDo2 hd
          refine hK.out _ _ (⟨(T6.cell (cell_lt f10) (by simp)).trans f10, (T6.cell (cell_lt ys) (by simp)).trans ys, (T6.cell (cell_lt xq0) (by simp)).trans xq0, (T6.cell (cell_lt xq1) (by simp)).trans xq1, (T6.cell (cell_lt xq2) (by simp)).trans xq2⟩) (fun hHeld => ?_)
          clear hK K
          try simp only [Act.put, List.setIfInBounds_toArray, List.set_cons_zero, List.set_cons_succ]
          refine wpAnyH_take (i := 10) (v := ?_) rfl (by kernel_rfl) (by kernel_rfl) (by kernel_rfl) (fun _ _ _ h => h) (Or.inl ⟨by rfl, ?_⟩) (by assumption) ?_
          rotate_left
          · (intro w hSw; (try dsimp only at hSw); go_simp; try with_reducible rfl)
          try simp only [Act.put, List.getElem_toArray, List.getElem_cons_succ, List.getElem_cons_zero, List.setIfInBounds_toArray, List.set_cons_zero, List.set_cons_succ]
          refine wpAnyH_take (i := 11) (v := ?_) rfl (by kernel_rfl) (by kernel_rfl) (by kernel_rfl) (fun _ _ _ h => h) (Or.inl ⟨by rfl, ?_⟩) (by assumption) ?_
          rotate_left
          · (intro w hSw; (try dsimp only at hSw); go_simp; try with_reducible rfl)
          try simp only [Act.put, List.getElem_toArray, List.getElem_cons_succ, List.getElem_cons_zero, List.setIfInBounds_toArray, List.set_cons_zero, List.set_cons_succ]
          refine wpAnyH_take (i := 12) (v := ?_) rfl (by kernel_rfl) (by kernel_rfl) (by kernel_rfl) (fun _ _ _ h => h) (Or.inl ⟨by rfl, ?_⟩) (by assumption) ?_
          rotate_left
          · (intro w hSw; (try dsimp only at hSw); go_simp; try with_reducible rfl)
          try simp only [Act.put, List.getElem_toArray, List.getElem_cons_succ, List.getElem_cons_zero, List.setIfInBounds_toArray, List.set_cons_zero, List.set_cons_succ]
          refine wpAnyH_take (i := 13) (v := ?_) rfl (by kernel_rfl) (by kernel_rfl) (by kernel_rfl) (fun _ _ _ h => h) (Or.inl ⟨by rfl, ?_⟩) (by assumption) ?_
          rotate_left
          · (intro w hSw; (try dsimp only at hSw); go_simp; try with_reducible rfl)
          try simp only [Act.put, List.getElem_toArray, List.getElem_cons_succ, List.getElem_cons_zero, List.setIfInBounds_toArray, List.set_cons_zero, List.set_cons_succ]
          refine wpAnyH_take (i := 14) (v := ?_) rfl (by kernel_rfl) (by kernel_rfl) (by kernel_rfl) (fun _ _ _ h => h) (Or.inl ⟨by rfl, ?_⟩) (by assumption) ?_
          rotate_left
          · (intro w hSw; (try dsimp only at hSw); go_simp; try with_reducible rfl)
          try simp only [Act.put, List.getElem_toArray, List.getElem_cons_succ, List.getElem_cons_zero, List.setIfInBounds_toArray, List.set_cons_zero, List.set_cons_succ]
          refine wpAnyH_done (by kernel_rfl) ?_ _
          have hC6 := cells_of_heapW ((T6.block g7 (heap_lt hB) (by simp)).trans hB)
          have S6 := S2.tch T6
          clear f10 ys xq0 xq1 xq2 hHeld
          have hNx := ve_next w6 ⟨op, a, b⟩ pc hrg.2.2.1 (by omega)
          obtain ⟨nx, hnx⟩ : ∃ nx, nx = nextF ⟨op, a, b⟩ pc := ⟨_, rfl⟩
          have hnb : ∀ k ∈ nx, k ≤ 4294967296 := by
            intro k hk
            rw [hnx] at hk
            unfold nextF at hk
            have h3 := hrg.2.2.2
            dsimp only at h3 hk
            split at hk
            · simp at hk; omega
            · split at hk
              · simp at hk; omega
              · split at hk
                · cases hk
                · simp at hk; omega
          have hnl : nx.length ≤ 2 := by
            rw [hnx]
            unfold nextF
            repeat' split
            all_goals simp
          rw [← hnx] at hNx HOUT
          clear hnx
          obtain ⟨R, hR⟩ : ∃ R, R = outF i m σ pc := ⟨_, rfl⟩
          have HRS2 := HRS.out
          rw [← hR] at HOUT HRS2
          have HRR := Lib.hid HRS2
          clear hR HRS2 HRS
          have hM0 : MidR w6 V n nx R v 0 ke := by
            rcases hd2 with ⟨h1, h2⟩ | ⟨h1, l, ao, cap, h2, h3, h4, h5⟩
            · exact .inl ⟨h1, by rw [HOUT.out, h2]⟩
            · refine .inr ⟨h1, l, ao, cap, _, h2, h4, h5, S6, ?_⟩
              rw [HOUT.out, h3, HN.out]
              rfl
          have T26 : Tch V.ms w w6 := T2.trans T6 (fun _ _ h => h) (by simp)
          have hsz : ∀ k ∈ V.ms, k < w6.heap.size := fun k hk => Nat.lt_of_lt_of_le (hMs k hk) T26.size
          clear hd2 HOUT S6 S2 S1 T1 t1 T2 rD t6 T6 hrg hnm htk hB
          go_wp2_with (first | (refine wpList_load_agg rfl 24 (.tmp 7) rfl ⟨g7, 0, none⟩ rfl #[.int .i64 op, .int .i64 a, .int .i64 b] _ hC6 Tryd.underlying24 rfl (by kernel_rfl) ?_) | fail)
          refine hNx.mono ?_
          rintro e w7 ⟨hnew, t7⟩
          obtain ⟨aoN, capN, rfl, hN⟩ := hnew.ex
          have sN := hN V.ms hsz
          have hlN : (nx.map Int.ofNat).length = nx.length := by simp
          rw [hlN] at sN ⊢
          have T7 : Tch V.ms w w7 := T26.trans t7 (fun _ _ h => h) (by simp)
          have hM7 := hM0.tch t7
          clear hNx hnew hN hlN hC6 hM0 T26
          go_wp2_with fail
          go_loopw [69, 9] (fun iv ev wz => ∃ (j : Nat) (k' : Int), j ≤ nx.length ∧ iv = .int .i64 j ∧ ev = .int .i64 k' ∧ MidR wz V n nx R v j k' ∧ Tch V.ms w7 wz) (fun iv _ _ => nx.length - (intOf iv).toNat)
          case atStart => exact ⟨0, ke, by omega, rfl, rfl, hM7, Tch.refl _ _⟩
          case round =>
            obtain ⟨j, k', hj1, rfl, rfl, hM, t8⟩ := hrel
            clear hM7
            have T8 : Tch V.ms w wr := T7.trans t8 (fun _ _ h => h) (fun _ _ h => h)
            by_cases hj : j < nx.length
            · have sR : RInts wr [] (.slice aoN (nx.map Int.ofNat).length capN) (nx.map Int.ofNat) := by
                have h1 := RInts.tch sN t8 (fun _ hi _ => hi)
                rw [show (nx.map Int.ofNat).length = nx.length by simp]
                exact h1.mono (by simp)
              obtain ⟨y, ey, ad2, hax, q, _⟩ := at_ints sR j (by simpa using hj)
              have ey2 : ((nx[j] : Nat) : Int) = y := by rw [← ey]; simp [List.getD, List.getElem?_eq_getElem hj]
              obtain ⟨pj, hpj⟩ : ∃ pj, nx[j] = pj := ⟨_, rfl⟩
              have hpb : pj ≤ 4294967296 := by rw [← hpj]; exact hnb _ (List.getElem_mem hj)
              rw [hpj] at ey2
              subst ey2
              have u1 := q wr (Tch.refl _ _)
              subst hax
              have HPJ := Lib.hid hpj
              clear q ey sR hpj
              by_cases hke : k' = 0
              · rcases hM with ⟨h0, _⟩ | ⟨_, l, ao, cap, σj, hv, h3, h4, h5, h6⟩
                · exact absurd hke h0
                · have HSTEP := Lib.hid (fun (w' : World) (k : Int) (t : Tch V.ms wr w') (hw : WentR w' V n (goF n σj pj l) k) => MidR.step (w' := w') (V := V) (nx := nx) (R := R) (v := v) (j := j) hv (RInts.tch h3 t (fun _ hi _ => hi)) h4 h6 hj HPJ.out hw)
                  have hg := HGS.out wr T8 σj h5 pj hpb (by omega) ao cap l h3 h4
                  subst hke
                  subst hv
                  clear h3 h5 h6 hnb
                  go_wp2_with fail
                  refine hg.mono ?_
                  rintro e w9 ⟨hgo, t9⟩
                  obtain ⟨k2, rfl, hw⟩ := goes_one hgo (fun k h => go_err h)
                  have hM9 := HSTEP.out w9 k2 t9 hw
                  clear hgo hw hg
                  go_wp2_with fail
                  go_roundw
                  case rel => exact ⟨j + 1, k2, by omega, by go_num, rfl, hM9, t8.trans t9 (fun _ _ h => h) (fun _ _ h => h)⟩
                  case measure => simp [intOf]; omega
              · have hb : (k' == 0) = false := beq_eq_false_iff_ne.2 hke
                have hM9 := hM.more hke (j + 1)
                clear hM hnb hke
                go_wp2_with fail
                go_roundw
                case rel => exact ⟨j + 1, k', by omega, by go_num, rfl, hM9, t8⟩
                case measure => simp [intOf]; omega
            · by_cases hke : k' = 0
              · rcases hM with ⟨h0, _⟩ | ⟨_, l, ao, cap, σj, hv, h3, h4, h5, h6⟩
                · exact absurd hke h0
                · have hRo : R = .ok σj := by rw [h6, List.drop_eq_nil_of_le (by omega)]; rfl
                  rcases HRR.out with ⟨k2, h7, _⟩ | ⟨σ2, g2, h7, h8, h9⟩
                  · rw [hRo] at h7; cases h7
                  · rw [hRo] at h7
                    simp only [Except.ok.injEq] at h7
                    subst h7
                    have H9 := Lib.hid h9
                    subst hke
                    clear h3 h6 hnb h9 hRo hv
                    go_wp2_with fail
                    go_roundg g2
                    case measure => exact h8
                    case rel => exact ⟨σj, H9.out, h5, T8⟩
              · rcases hM with ⟨_, h0⟩ | ⟨h0, _⟩
                · rcases HRR.out with ⟨k2, h7, h8, _⟩ | ⟨σ2, g2, h7, h8, h9⟩
                  · rw [h0] at h7
                    simp only [Except.error.injEq] at h7
                    subst h7
                    have HR := Lib.hid h8
                    have hb : (k' != 0) = true := by simpa using hke
                    have HKE := Lib.hid hke
                    clear hnb h0 h8 hke
                    go_wp2_with fail
                    go_ret2
                    exact ⟨by rw [HR.out]; rfl, (show EndR wr V m r τ from fun h0 => by rw [HR.out] at h0; exact absurd h0 HKE.out), T8⟩
                  · rw [h0] at h7; cases h7
                · exact absurd h0 hke
end Go.Proofs.YtpabkjjonbhdeaaDoor
