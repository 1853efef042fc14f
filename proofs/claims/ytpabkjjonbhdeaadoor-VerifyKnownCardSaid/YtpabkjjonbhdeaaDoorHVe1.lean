/-
  CONTRACTS: verify: what an instruction names; does, shows, result, next; the first that is true. Conditions: sizes of 64 bits.
-/
import Derived.Test.YtpabkjjonbhdeaaDoorHVeP
import Derived.Test.YtpabkjjonbhdeaaDoorHImx
import Derived.Deep.QuietTactic
import Derived.BigQuiet
namespace Go.Tcn
open Go.RowKit
set_option linter.unusedVariables false
set_option linter.unusedSimpArgs false
/-- Where a walk's lists lie. -/
structure WV where
  af : Option Addr
  cf : Nat
  ai : Option Addr
  ci : Nat
  am : Option Addr
  cm : Nat
  ae : Option Addr
  ce : Nat
  ap : Option Addr
  cp : Nat
  al : Option Addr
  cl : Nat
  ac : Option Addr
  cc : Nat
  ao : Option Addr
  co : Nat
  bs : Nat
  bh : Nat
  bt : Nat
/-- A walk at p, but for what it turns. -/
structure WkR (w : World) (T : TypeId) (p : Nat) (M : List Nat) (i : Img) (m : Mth) (V : WV) : Prop where
  hb : w.heap[p]? = some (.cells #[.string ⟨i.name.toArray⟩, .slice V.af i.fields.length V.cf, .slice V.ai i.imports.length V.ci, .slice V.am i.methods.length V.cm, .slice V.ae i.exports.length V.ce, .slice V.ap m.params.length V.cp, .int .i64 m.result, .slice V.al m.locals.length V.cl, .slice V.ac m.code.length V.cc, .slice V.ao (m.params ++ m.locals).length V.co, .slice (some ⟨V.bs, 0, none⟩) m.code.length m.code.length, .slice (some ⟨V.bh, 0, none⟩) m.code.length m.code.length, .slice (some ⟨V.bt, 0, none⟩) m.code.length m.code.length] T (0, 0))
  rf : RInts w M (.slice V.af i.fields.length V.cf) i.fields
  ri : RImps w M (.slice V.ai i.imports.length V.ci) i.imports
  rm : RMths w M (.slice V.am i.methods.length V.cm) i.methods
  rc : RCode w M (.slice V.ac m.code.length V.cc) m.code
  ro : RInts w M (.slice V.ao (m.params ++ m.locals).length V.co) (m.params ++ m.locals)
theorem WkR.tch {w w' : World} {T : TypeId} {p : Nat} {M L : List Nat} {i : Img} {m : Mth} {V : WV} (h : WkR w T p M i m V) (t : Tch L w w') (hp : p ∉ L) (hl : ∀ i ∈ L, i < w.heap.size → i ∈ M) : WkR w' T p M i m V :=
  ⟨by rw [t.block p (heap_lt h.hb) hp]; exact h.hb, h.rf.tch t hl, h.ri.tch t hl, h.rm.tch t hl, h.rc.tch t hl, h.ro.tch t hl⟩
theorem WkR.c1 {w : World} {T : TypeId} {p : Nat} {M : List Nat} {i : Img} {m : Mth} {V : WV} (h : WkR w T p M i m V) : w.cell? ⟨p, 1, none⟩ = some (.slice V.af i.fields.length V.cf) := by simp [World.cell?, h.hb]
theorem WkR.c2 {w : World} {T : TypeId} {p : Nat} {M : List Nat} {i : Img} {m : Mth} {V : WV} (h : WkR w T p M i m V) : w.cell? ⟨p, 2, none⟩ = some (.slice V.ai i.imports.length V.ci) := by simp [World.cell?, h.hb]
theorem WkR.c3 {w : World} {T : TypeId} {p : Nat} {M : List Nat} {i : Img} {m : Mth} {V : WV} (h : WkR w T p M i m V) : w.cell? ⟨p, 3, none⟩ = some (.slice V.am i.methods.length V.cm) := by simp [World.cell?, h.hb]
theorem WkR.c6 {w : World} {T : TypeId} {p : Nat} {M : List Nat} {i : Img} {m : Mth} {V : WV} (h : WkR w T p M i m V) : w.cell? ⟨p, 6, none⟩ = some (.int .i64 m.result) := by simp [World.cell?, h.hb]
theorem WkR.c8 {w : World} {T : TypeId} {p : Nat} {M : List Nat} {i : Img} {m : Mth} {V : WV} (h : WkR w T p M i m V) : w.cell? ⟨p, 8, none⟩ = some (.slice V.ac m.code.length V.cc) := by simp [World.cell?, h.hb]
theorem WkR.c9 {w : World} {T : TypeId} {p : Nat} {M : List Nat} {i : Img} {m : Mth} {V : WV} (h : WkR w T p M i m V) : w.cell? ⟨p, 9, none⟩ = some (.slice V.ao (m.params ++ m.locals).length V.co) := by simp [World.cell?, h.hb]
theorem WkR.c10 {w : World} {T : TypeId} {p : Nat} {M : List Nat} {i : Img} {m : Mth} {V : WV} (h : WkR w T p M i m V) : w.cell? ⟨p, 10, none⟩ = some (.slice (some ⟨V.bs, 0, none⟩) m.code.length m.code.length) := by simp [World.cell?, h.hb]
theorem WkR.c11 {w : World} {T : TypeId} {p : Nat} {M : List Nat} {i : Img} {m : Mth} {V : WV} (h : WkR w T p M i m V) : w.cell? ⟨p, 11, none⟩ = some (.slice (some ⟨V.bh, 0, none⟩) m.code.length m.code.length) := by simp [World.cell?, h.hb]
theorem WkR.c12 {w : World} {T : TypeId} {p : Nat} {M : List Nat} {i : Img} {m : Mth} {V : WV} (h : WkR w T p M i m V) : w.cell? ⟨p, 12, none⟩ = some (.slice (some ⟨V.bt, 0, none⟩) m.code.length m.code.length) := by simp [World.cell?, h.hb]
end Go.Tcn
namespace Go.Proofs.YtpabkjjonbhdeaaDoor
open Go.RowKit Go.Tcn
set_option linter.unusedVariables false
set_option linter.unusedSimpArgs false
set_option maxRecDepth 100000 in
set_option maxHeartbeats 4000000 in
theorem ve_does (k asked : Int) (w : World) : Calls Tryd.prog 63 #[.int .i64 k, .int .i64 asked] w fun e w' => e = .returned (.bool (doesB k asked)) ∧ w = w' := by
  have hI := fun a w => lab_IsInt a w
  have hA := fun a w => lab_IsArr a w
  have hd : doesB k asked = if asked = -1 then true else if asked = -2 ∨ asked = -3 then isIntB k else if asked = -4 then isArrB k else isIntB k && isIntB asked || k == asked := rfl
  rw [hd]
  clear hd
  have hc : asked = -1 ∨ asked = -2 ∨ asked = -3 ∨ asked = -4 ∨ (¬ asked = -1 ∧ ¬ asked = -2 ∧ ¬ asked = -3 ∧ ¬ asked = -4) := by omega
  rcases hc with rfl | rfl | rfl | rfl | ⟨n1, n2, n3, n4⟩
  · go_enter Tryd.func63, Tryd.ntmps63
    go_wp2_with fail
    go_ret
    exact ⟨rfl, rfl⟩
  · go_enter Tryd.func63, Tryd.ntmps63
    go_wp2_with fail
    refine (hI k w).mono ?_
    rintro e w' ⟨rfl, rfl⟩
    go_wp2_with fail
    go_ret
    exact ⟨rfl, rfl⟩
  · go_enter Tryd.func63, Tryd.ntmps63
    go_wp2_with fail
    refine (hI k w).mono ?_
    rintro e w' ⟨rfl, rfl⟩
    go_wp2_with fail
    go_ret
    exact ⟨rfl, rfl⟩
  · go_enter Tryd.func63, Tryd.ntmps63
    go_wp2_with fail
    refine (hA k w).mono ?_
    rintro e w' ⟨rfl, rfl⟩
    go_wp2_with fail
    go_ret
    exact ⟨rfl, rfl⟩
  · have hE : (if asked = -1 then true else if asked = -2 ∨ asked = -3 then isIntB k else if asked = -4 then isArrB k else isIntB k && isIntB asked || k == asked) = (isIntB k && isIntB asked || k == asked) := by
      rw [if_neg n1, if_neg (by omega), if_neg n4]
    rw [hE]
    clear hE
    have hI1 := hI k w
    have hI2 := hI asked w
    cases hk : isIntB k
    · rw [hk] at hI1
      go_enter Tryd.func63, Tryd.ntmps63
      go_wp2_with fail
      refine hI1.mono ?_
      rintro e w' ⟨rfl, rfl⟩
      go_wp2_with fail
      go_ret
      exact ⟨by simp, rfl⟩
    · rw [hk] at hI1
      cases ha : isIntB asked
      · rw [ha] at hI2
        go_enter Tryd.func63, Tryd.ntmps63
        go_wp2_with fail
        refine hI1.mono ?_
        rintro e w' ⟨rfl, rfl⟩
        go_wp2_with fail
        refine hI2.mono ?_
        rintro e w' ⟨rfl, rfl⟩
        go_wp2_with fail
        go_ret
        exact ⟨by simp, rfl⟩
      · rw [ha] at hI2
        go_enter Tryd.func63, Tryd.ntmps63
        go_wp2_with fail
        refine hI1.mono ?_
        rintro e w' ⟨rfl, rfl⟩
        go_wp2_with fail
        refine hI2.mono ?_
        rintro e w' ⟨rfl, rfl⟩
        go_wp2_with fail
        go_ret
        exact ⟨by simp, rfl⟩
set_option maxRecDepth 100000 in
set_option maxHeartbeats 4000000 in
theorem ve_names (w : World) (p : Nat) (M : List Nat) (i : Img) (m : Mth) (V : WV) (h : WkR w 54 p M i m V) (x : Ins) :
    Calls Tryd.prog 26 #[.pointer (some ⟨p, 0, none⟩), .agg #[.int .i64 x.op, .int .i64 x.a, .int .i64 x.b]] w fun e w' => e = .returned (.bool (namesF i m x)) ∧ Tch [] w w' := by
  obtain ⟨op, a, b⟩ := x
  obtain ⟨V1, hV1⟩ : ∃ W, W = w.alloc (.cells #[.int .i64 op, .int .i64 a, .int .i64 b] 24) := ⟨_, rfl⟩
  have tV : Tch [] w V1 := by rw [hV1]; exact (Tch.refl [] w).alloc _
  have di : By V1 w.heap.size (.int .i64 op) (.int .i64 a) (.int .i64 b) := by rw [hV1]; exact By.new _ _ _ _ _
  have h1 := h.tch tV (by simp) (by simp)
  have e1 := h1.c1
  have e2 := h1.c2
  have e3 := h1.c3
  have e8 := h1.c8
  have e9 := h1.c9
  obtain ⟨g, hg⟩ : ∃ g, g = w.heap.size := ⟨_, rfl⟩
  rw [← hg] at di
  obtain ⟨d0, d1, d2, f0, f1, f2⟩ := di
  clear h h1
  obtain ⟨r, hr⟩ : ∃ r, namesF i m ⟨op, a, b⟩ = r := ⟨_, rfl⟩
  rw [hr]
  have HR := Lib.hid hr
  clear hr
  go_enter Tryd.func26, Tryd.ntmps26
  go_upto_region 1 with fail
  rw [← hV1, ← hg]
  clear hV1 hg
  have hc : op = 2 ∨ op = 3 ∨ op = 33 ∨ op = 34 ∨ op = 37 ∨ op = 38 ∨ op = 23 ∨ op = 24 ∨ (¬ op = 2 ∧ ¬ op = 3 ∧ ¬ op = 33 ∧ ¬ op = 34 ∧ ¬ op = 37 ∧ ¬ op = 38 ∧ ¬ op = 23 ∧ ¬ op = 24) := by omega
  rcases hc with rfl | rfl | rfl | rfl | rfl | rfl | rfl | rfl | ⟨n1, n2, n3, n4, n5, n6, n7, n8⟩
  · go_wp2_with fail
    go_quiet (fail)
    go_wp2_with fail
    go_ret
    exact ⟨by rw [← HR.out]; simp [namesF, locF], tV.drewN _⟩
  · go_wp2_with fail
    go_quiet (fail)
    go_wp2_with fail
    go_ret
    exact ⟨by rw [← HR.out]; simp [namesF, locF], tV.drewN _⟩
  · go_wp2_with fail
    go_quiet (fail)
    go_wp2_with fail
    go_ret
    exact ⟨by rw [← HR.out]; simp [namesF, locF], tV.drewN _⟩
  · go_wp2_with fail
    go_quiet (fail)
    go_wp2_with fail
    go_ret
    exact ⟨by rw [← HR.out]; simp [namesF, locF], tV.drewN _⟩
  · go_wp2_with fail
    go_quiet (fail)
    go_wp2_with fail
    go_ret
    exact ⟨by rw [← HR.out]; simp [namesF, locF], tV.drewN _⟩
  · go_wp2_with fail
    go_quiet (fail)
    go_wp2_with fail
    go_ret
    exact ⟨by rw [← HR.out]; simp [namesF, locF], tV.drewN _⟩
  · go_wp2_with fail
    go_quiet (fail)
    go_wp2_with fail
    go_ret
    exact ⟨by rw [← HR.out]; simp [namesF, locF], tV.drewN _⟩
  · go_wp2_with fail
    go_quiet (fail)
    go_wp2_with fail
    go_ret
    exact ⟨by rw [← HR.out]; simp [namesF, locF], tV.drewN _⟩
  · go_wp2_with fail
    go_ret
    exact ⟨by rw [← HR.out]; simp [namesF, locF, n1, n2, n3, n4, n5, n6, n7, n8], tV⟩
set_option maxRecDepth 100000 in
set_option maxHeartbeats 4000000 in
theorem ve_shows (k asked : Int) (w : World) : Calls Tryd.prog 66 #[.int .i64 k, .int .i64 asked] w fun e w' => e = .returned (.bool (showsB k asked)) ∧ w = w' := by
  have hd : showsB k asked = ((asked == -3 || asked == 1) && k == 2) := rfl
  rw [hd]
  clear hd
  have hc : asked = -3 ∨ asked = 1 ∨ (¬ asked = -3 ∧ ¬ asked = 1) := by omega
  rcases hc with rfl | rfl | ⟨n1, n2⟩
  · go_enter Tryd.func66, Tryd.ntmps66
    go_wp2_with fail
    go_ret
    exact ⟨by simp, rfl⟩
  · go_enter Tryd.func66, Tryd.ntmps66
    go_wp2_with fail
    go_ret
    exact ⟨by simp, rfl⟩
  · have m1 : (asked == -3) = false := beq_eq_false_iff_ne.2 n1
    have m2 : (asked == 1) = false := beq_eq_false_iff_ne.2 n2
    go_enter Tryd.func66, Tryd.ntmps66
    go_wp2_with fail
    go_ret
    exact ⟨by simp [n1, n2], rfl⟩
/-- What is fitting is the list itself. -/
theorem ve_fitting (v : Value) (w : World) : Calls Tryd.prog 61 #[v] w fun e w' => e = .returned v ∧ w = w' := by
  go_enter Tryd.func61, Tryd.ntmps61
  go_wp2_with fail
  go_ret
  exact ⟨rfl, rfl⟩
/-- A list of the call's own that reads as numbers, in new memory. -/
structure NewI (w w' : World) (e : Ending) (l : List Int) : Prop where
  ex : ∃ ao cap, e = .returned (.slice ao l.length cap) ∧ ∀ M : List Nat, (∀ i ∈ M, i < w.heap.size) → RInts w' M (.slice ao l.length cap) l
theorem new_lit (w : World) (l : List Int) (cs : Array Value) (hcs : cs.toList = ints l) : ∀ M : List Nat, (∀ i ∈ M, i < w.heap.size) → RInts (w.alloc (.cells cs 3)) M (.slice (some ⟨w.heap.size, 0, none⟩) l.length l.length) l := fun M hM => by
  have h := src_new (fr := (0, 0)) w (w.alloc (.cells cs 3)) M cs 3 l.length l.length (Tch.refl [] _) (fun hx => by have := hM _ hx; omega)
  rw [hcs] at h
  exact h
set_option maxRecDepth 100000 in
set_option maxHeartbeats 4000000 in
theorem ve_result (k : Int) (w : World) : Calls Tryd.prog 62 #[.int .i64 k] w fun e w' => NewI w w' e (resL k) ∧ Tch [] w w' := by
  by_cases hk : k = 0
  · subst hk
    go_enter Tryd.func62, Tryd.ntmps62
    go_wp2_with fail
    go_ret
    exact ⟨⟨none, 0, rfl, fun M hM => ⟨.inl ⟨rfl, rfl, rfl⟩⟩⟩, Tch.refl _ _⟩
  · have hr : resL k = [k] := by unfold resL; rw [if_neg hk]
    rw [hr]
    clear hr
    have hb : (k == 0) = false := beq_eq_false_iff_ne.2 hk
    have hf := fun v w => ve_fitting v w
    go_enter Tryd.func62, Tryd.ntmps62
    go_wp2_with fail
    refine (hf _ _).mono ?_
    rintro e w' ⟨rfl, rfl⟩
    go_wp2_with fail
    go_ret
    exact ⟨⟨_, _, rfl, new_lit w [k] #[.int .i64 k] rfl⟩, (Tch.refl [] w).alloc _⟩
/-- The first that is true. -/
def idxT : List Bool → Nat → Int
  | [], _ => -1
  | b :: l, k => if b = true then (k : Int) else idxT l (k + 1)
theorem idxT_drop (l : List Bool) (k : Nat) (hk : k < l.length) : idxT (l.drop k) k = if l[k] = true then (k : Int) else idxT (l.drop (k + 1)) (k + 1) := by
  rw [List.drop_eq_getElem_cons hk]; rfl
set_option maxRecDepth 100000 in
set_option maxHeartbeats 4000000 in
theorem ve_Index (w : World) (g : Nat) (l : List Bool) (T : TypeId) (h : w.heap[g]? = some (.cells (l.map Value.bool).toArray T (0, 0))) (hm : l.length ≤ 9223372036854775807) :
    Calls Tryd.prog 28 #[.slice (some ⟨g, 0, none⟩) l.length l.length, .bool true] w fun e w' => e = .returned (.int .i64 (idxT l 0)) ∧ w = w' := by
  have hc : ∀ k (hk : k < l.length), w.cell? ⟨g, k, none⟩ = some (.bool l[k]) := fun k hk => by simp [World.cell?, h, hk]
  clear h
  go_enter Tryd.func28, Tryd.ntmps28
  go_wp2_with fail
  go_loopw [8] (fun iv wz => ∃ k : Nat, k ≤ l.length ∧ iv = .int .i64 k ∧ idxT l 0 = idxT (l.drop k) k ∧ w = wz) (fun iv _ => l.length - (intOf iv).toNat)
  case atStart => exact ⟨0, by omega, rfl, rfl, rfl⟩
  case round =>
    obtain ⟨k, hk1, rfl, hd, rfl⟩ := hrel
    by_cases hk : k < l.length
    · have hq := hc k hk
      rw [idxT_drop l k hk] at hd
      clear hc
      generalize l[k] = b at *
      cases b
      · rw [if_neg (by simp)] at hd
        have HD := Lib.hid hd
        clear hd
        go_wp2_with fail
        go_roundw
        case rel => exact ⟨k + 1, by omega, by go_num, HD.out, by first | rfl | trivial⟩
        case measure => simp [intOf]; omega
      · rw [if_pos rfl] at hd
        have HD := Lib.hid hd
        clear hd
        go_wp2_with fail
        go_ret
        exact ⟨by rw [HD.out]; rfl, rfl⟩
    · rw [List.drop_eq_nil_of_le (by omega)] at hd
      have HD := Lib.hid hd
      clear hd
      go_wp2_with fail
      go_ret
      exact ⟨by rw [HD.out]; rfl, rfl⟩
end Go.Proofs.YtpabkjjonbhdeaaDoor
