/-
  PLAIN LAW: verify: a method's walk, of code that runs straight on. Conditions: none.
-/
import Derived.Test.YtpabkjjonbhdeaaDoorHLabel
import Derived.Test.YtpabkjjonbhdeaaDoorHImP
namespace Go.Proofs.YtpabkjjonbhdeaaDoor
open Go.RowKit Go.Tcn
set_option linter.unusedVariables false
set_option linter.unusedSimpArgs false
def locF (m : Mth) : List Int := m.params ++ m.locals
def resL (k : Int) : List Int := if k = 0 then [] else [k]
def methAt (i : Img) (a : Int) : Mth := i.methods.getD a.toNat ⟨[], 0, [], []⟩
def impAt (i : Img) (a : Int) : Imp := i.imports.getD a.toNat ⟨[], 0, [], 0⟩
def twoB (op : Int) : Bool := decide (6 ≤ op ∧ op ≤ 14 ∨ 19 ≤ op ∧ op ≤ 21)
/-- Does an instruction name what is there? -/
def namesF (i : Img) (m : Mth) (x : Ins) : Bool :=
  if x.op = 2 ∨ x.op = 3 then decide (x.a < (locF m).length) else if x.op = 33 ∨ x.op = 34 then decide (x.a < i.fields.length)
  else if x.op = 37 then decide (x.a < i.methods.length) else if x.op = 38 then decide (x.a < i.imports.length)
  else if x.op = 23 ∨ x.op = 24 then decide (x.a < m.code.length) else true
/-- What an instruction takes. -/
def takesF (i : Img) (m : Mth) (x : Ins) : List Int :=
  if x.op = 3 then [(locF m).getD x.a.toNat 0] else if x.op = 34 then [i.fields.getD x.a.toNat 0]
  else if x.op = 4 ∨ x.op = 5 then [-1] else if x.op = 15 ∨ x.op = 16 then [-2] else if twoB x.op then [-2, -2]
  else if x.op = 17 ∨ x.op = 18 then [-3, -3] else if x.op = 22 then [-2, -1, -1] else if x.op = 24 ∨ x.op = 27 then [-3]
  else if x.op = 26 ∨ x.op = 28 then [-4] else if x.op = 29 then [-4, -3] else if x.op = 30 then [-4, -3, -2]
  else if x.op = 31 ∨ x.op = 32 then [-4, -3, -4, -3, -3] else if x.op = 36 then [-4, -3, -3]
  else if x.op = 37 then (methAt i x.a).params else if x.op = 38 then (impAt i x.a).params else if x.op = 39 then resL m.result else []
def doesB (k asked : Int) : Bool := if asked = -1 then true else if asked = -2 ∨ asked = -3 then isIntB k else if asked = -4 then isArrB k else isIntB k && isIntB asked || k == asked
def showsB (k asked : Int) : Bool := (asked == -3 || asked == 1) && k == 2
def allDo : List Int → List Int → Bool
  | t :: ts, k :: ks => doesB k t && allDo ts ks
  | _, _ => true
def anyShow : List Int → List Int → Bool
  | t :: ts, k :: ks => showsB k t || anyShow ts ks
  | _, _ => false
def kindsF (i : Img) (m : Mth) (x : Ins) (l : List Int) : Int :=
  if allDo (takesF i m x) l = false then 11
  else if x.op = 22 ∧ ¬ (isIntB (l.getD 1 0) && isIntB (l.getD 2 0)) ∧ ¬ (isArrB (l.getD 1 0) && l.getD 1 0 == l.getD 2 0) then 11 else 0
def leaksF (i : Img) (m : Mth) (x : Ins) (l : List Int) : Int :=
  let leak := anyShow (takesF i m x) l
  let leak := if x.op = 22 then isArrB (l.getD 1 0) && l.getD 0 0 == 2 else if x.op = 30 then leak || l.getD 0 0 == 3 && l.getD 2 0 == 2
    else if x.op = 31 then leak || l.getD 0 0 == 3 && l.getD 2 0 == 4 else if x.op = 36 then leak || x.a == 1 && l.getD 0 0 == 4 else leak
  if leak then 12 else 0
def pickV (l : List Int) : Int := if isArrB (l.getD 1 0) then l.getD 1 0 else bothV (l.getD 0 0) (bothV (l.getD 1 0) (l.getD 2 0))
/-- What an instruction gives. -/
def givesF (i : Img) (m : Mth) (x : Ins) (l : List Int) : List Int :=
  if x.op = 1 ∨ x.op = 17 ∨ x.op = 18 ∨ x.op = 26 ∨ x.op = 28 then [1] else if x.op = 2 then [(locF m).getD x.a.toNat 0]
  else if x.op = 33 then [i.fields.getD x.a.toNat 0] else if x.op = 5 then [l.getD 0 0, l.getD 0 0] else if twoB x.op then [bothV (l.getD 0 0) (l.getD 1 0)]
  else if x.op = 15 ∨ x.op = 16 then [l.getD 0 0] else if x.op = 22 then [pickV l] else if x.op = 25 ∨ x.op = 27 then [x.a]
  else if x.op = 29 then [ofV (l.getD 0 0)] else if x.op = 32 then (if l.getD 0 0 == 4 || l.getD 2 0 == 4 then [2] else [1])
  else if x.op = 35 then [3 + x.a - 1] else if x.op = 37 then resL (methAt i x.a).result else if x.op = 38 then resL (impAt i x.a).result else []
/-- An instruction done to a stack. -/
def doF (i : Img) (m : Mth) (x : Ins) (st : List Int) : Except Int (List Int) :=
  let n := st.length - (takesF i m x).length
  if st.length < (takesF i m x).length ∨ 8 < n + (givesF i m x (List.replicate 8 0)).length then .error 10
  else if kindsF i m x (st.drop n) ≠ 0 then .error (kindsF i m x (st.drop n))
  else if leaksF i m x (st.drop n) ≠ 0 then .error (leaksF i m x (st.drop n))
  else .ok (st.take n ++ givesF i m x (st.drop n))
def nextF (x : Ins) (pc : Nat) : List Nat := if x.op = 23 then [x.a.toNat] else if x.op = 24 then [pc + 1, x.a.toNat] else if x.op = 39 then [] else [pc + 1]
def joinAllF : List Int → List Int → Option (List Int)
  | [], [] => some []
  | a :: l, b :: m => if joinB a b then (joinAllF l m).map (joinV a b :: ·) else none
  | _, _ => none
/-- A walk's state. -/
structure VS where
  sts : List (List Int)
  has : List Bool
  todo : List Bool
deriving DecidableEq
def goF (n : Nat) (σ : VS) (pc : Nat) (st : List Int) : Except Int VS :=
  if n ≤ pc then .error 13
  else if σ.has.getD pc false = false then .ok ⟨σ.sts.set pc st, σ.has.set pc true, σ.todo.set pc true⟩
  else match joinAllF (σ.sts.getD pc []) st with
    | none => .error 14
    | some j => if j = σ.sts.getD pc [] then .ok σ else .ok ⟨σ.sts.set pc j, σ.has, σ.todo.set pc true⟩
def goAll (n : Nat) : List Nat → VS → List Int → Except Int VS
  | [], σ, _ => .ok σ
  | pc :: l, σ, st => match goF n σ pc st with
    | .error e => .error e
    | .ok σ' => goAll n l σ' st
def firstT (l : List Bool) : Option Nat := l.findIdx? id
/-- One round: what is next, or the end. -/
def stepF (i : Img) (m : Mth) (σ : VS) : Except (Nat × Int) VS :=
  match firstT σ.todo with
  | none => .error (0, 0)
  | some pc =>
    match doF i m (m.code.getD pc ⟨0, 0, 0⟩) (σ.sts.getD pc []) with
    | .error e => .error (pc, e)
    | .ok st => match goAll m.code.length (nextF (m.code.getD pc ⟨0, 0, 0⟩) pc) ⟨σ.sts, σ.has, σ.todo.set pc false⟩ st with
      | .error e => .error (pc, e)
      | .ok σ' => .ok σ'
def runF (i : Img) (m : Mth) : Nat → VS → Option (Nat × Int)
  | 0, _ => none
  | n + 1, σ => match stepF i m σ with
    | .error r => some r
    | .ok σ' => runF i m n σ'
/-- The same, with the state at the end. -/
def runG (i : Img) (m : Mth) : Nat → VS → Option ((Nat × Int) × VS)
  | 0, _ => none
  | n + 1, σ => match stepF i m σ with
    | .error r => some (r, σ)
    | .ok σ' => runG i m n σ'
theorem runG_of {i : Img} {m : Mth} {n : Nat} : ∀ {σ : VS} {r : Nat × Int}, runF i m n σ = some r → ∃ τ, runG i m n σ = some (r, τ) := by
  induction n with
  | zero => intro σ r h; cases h
  | succ n ih =>
    intro σ r h
    rw [runF] at h
    rw [runG]
    split at h
    · simp only [Option.some.injEq] at h
      subst h
      exact ⟨_, rfl⟩
    · exact ih h
def initF (n : Nat) : VS := ⟨(List.replicate n []).set 0 [], (List.replicate n false).set 0 true, (List.replicate n false).set 0 true⟩
/-- A method's walk, whole. -/
def methF (i : Img) (m : Mth) (fuel : Nat) : Option (Nat × Int) :=
  match m.code.findIdx? (fun x => !namesF i m x) with
  | some pc => some (pc, 9)
  | none => runF i m fuel (initF m.code.length)
/-- Code that runs straight on. -/
def linF (i : Img) (m : Mth) : List Ins → Nat → List Int → Option (Nat × Int)
  | [], pc, _ => some (pc - 1, 13)
  | x :: l, pc, st => match doF i m x st with
    | .error e => some (pc, e)
    | .ok st' => if x.op = 39 then some (0, 0) else if x.op = 23 ∨ x.op = 24 then none else linF i m l (pc + 1) st'
structure Lin (n : Nat) (σ : VS) (pc : Nat) (st : List Int) : Prop where
  sl : σ.sts.length = n
  hl : σ.has.length = n
  tl : σ.todo.length = n
  hs : σ.sts[pc]? = some st
  hh : ∀ k, pc < k → k < n → σ.has[k]? = some false
  ht : ∀ k, k < n → σ.todo[k]? = some (k == pc)
  hp : pc < n
theorem Lin.first {n : Nat} {σ : VS} {pc : Nat} {st : List Int} (h : Lin n σ pc st) : firstT σ.todo = some pc := by
  unfold firstT
  rw [List.findIdx?_eq_some_iff_getElem]
  have hp := h.hp
  refine ⟨by rw [h.tl]; exact hp, ?_, fun j hj => ?_⟩
  · have := h.ht pc hp
    rw [List.getElem?_eq_getElem (by rw [h.tl]; exact hp)] at this
    simpa using this
  · have := h.ht j (by omega)
    rw [List.getElem?_eq_getElem (by rw [h.tl]; omega)] at this
    simp only [Option.some.injEq] at this
    rw [this]
    simp; omega
theorem Lin.none {n : Nat} {σ : VS} {pc : Nat} {st : List Int} (h : Lin n σ pc st) : firstT (σ.todo.set pc false) = none := by
  unfold firstT
  rw [List.findIdx?_eq_none_iff]
  intro b hb
  obtain ⟨j, hj, rfl⟩ := List.getElem_of_mem hb
  rw [List.length_set, h.tl] at hj
  rw [List.getElem_set]
  split
  · rfl
  · rename_i hne
    have := h.ht j hj
    rw [List.getElem?_eq_getElem (by rw [h.tl]; exact hj)] at this
    simp only [Option.some.injEq] at this
    rw [this]
    simp; omega
theorem Lin.next {n : Nat} {σ : VS} {pc : Nat} {st : List Int} (h : Lin n σ pc st) (st' : List Int) (hn : pc + 1 < n) :
    ∃ σ', goF n ⟨σ.sts, σ.has, σ.todo.set pc false⟩ (pc + 1) st' = .ok σ' ∧ Lin n σ' (pc + 1) st' := by
  have hf := h.hh (pc + 1) (by omega) hn
  unfold goF
  rw [if_neg (by omega), if_pos (by simp [List.getD, hf])]
  refine ⟨_, rfl, by simp [h.sl], by simp [h.hl], by simp [h.tl], ?_, ?_, ?_, hn⟩
  · simp [List.getElem?_set, h.sl, hn]
  · intro k h1 h2
    simp only [List.getElem?_set]
    rw [if_neg (by omega)]
    exact h.hh k (by omega) h2
  · intro k hk
    have := h.ht k hk
    simp only [List.getElem?_set, List.length_set, h.tl]
    by_cases h1 : pc + 1 = k
    · subst h1; simp [hk]
    · rw [if_neg h1]
      by_cases h2 : pc = k
      · subst h2; simp [hk]
      · rw [if_neg h2, this, beq_eq_false_iff_ne.2 (show k ≠ pc by omega), beq_eq_false_iff_ne.2 (show k ≠ pc + 1 by omega)]
/-- The walk over code that runs straight on. -/
theorem run_lin (i : Img) (m : Mth) : ∀ (l : List Ins) (x : Ins) (pc : Nat) (σ : VS) (st : List Int) (r : Nat × Int), m.code.drop pc = x :: l → Lin m.code.length σ pc st → linF i m (x :: l) pc st = some r → runF i m (l.length + 2) σ = some r := by
  intro l
  induction l with
  | nil =>
    intro x pc σ st r hd hL hr
    have hx : m.code[pc]? = some x := by
      have := congrArg (fun l => l[0]?) hd
      simpa using this
    have hlen : m.code.length = pc + 1 := by
      have := congrArg List.length hd
      have := hL.hp
      simp at *; omega
    rw [show ([] : List Ins).length + 2 = 1 + 1 from rfl, runF]
    unfold stepF
    rw [hL.first]
    simp only [List.getD, hx, hL.hs, Option.getD_some]
    unfold linF at hr
    cases hdo : doF i m x st with
    | error e => rw [hdo] at hr; simpa using hr
    | ok st' =>
      rw [hdo] at hr
      simp only at hr ⊢
      by_cases h39 : x.op = 39
      · rw [if_pos h39] at hr
        have hnx : nextF x pc = [] := by unfold nextF; simp [h39]
        rw [hnx]
        simp only [goAll]
        rw [runF]
        unfold stepF
        rw [hL.none]
        exact hr
      · rw [if_neg h39] at hr
        by_cases hj : x.op = 23 ∨ x.op = 24
        · rw [if_pos hj] at hr; cases hr
        · rw [if_neg hj] at hr
          have hnx : nextF x pc = [pc + 1] := by
            unfold nextF
            rw [if_neg (by omega), if_neg (by omega), if_neg h39]
          rw [hnx]
          simp only [goAll]
          have : goF m.code.length ⟨σ.sts, σ.has, σ.todo.set pc false⟩ (pc + 1) st' = .error 13 := by
            unfold goF
            rw [if_pos (by omega)]
          rw [this]
          simp only [linF] at hr
          simpa using hr
  | cons y l ih =>
    intro x pc σ st r hd hL hr
    have hx : m.code[pc]? = some x := by
      have := congrArg (fun l => l[0]?) hd
      simpa using this
    have hlen : pc + 1 < m.code.length := by
      have := congrArg List.length hd
      have := hL.hp
      simp at *; omega
    have hd2 : m.code.drop (pc + 1) = y :: l := by
      have := congrArg (List.drop 1) hd
      rw [List.drop_drop] at this
      simpa using this
    rw [show (y :: l).length + 2 = (l.length + 2) + 1 from rfl, runF]
    unfold stepF
    rw [hL.first]
    simp only [List.getD, hx, hL.hs, Option.getD_some]
    unfold linF at hr
    cases hdo : doF i m x st with
    | error e => rw [hdo] at hr; simpa using hr
    | ok st' =>
      rw [hdo] at hr
      simp only at hr ⊢
      by_cases h39 : x.op = 39
      · rw [if_pos h39] at hr
        have hnx : nextF x pc = [] := by unfold nextF; simp [h39]
        rw [hnx]
        simp only [goAll]
        rw [runF]
        unfold stepF
        rw [hL.none]
        exact hr
      · rw [if_neg h39] at hr
        by_cases hj : x.op = 23 ∨ x.op = 24
        · rw [if_pos hj] at hr; cases hr
        · rw [if_neg hj] at hr
          have hnx : nextF x pc = [pc + 1] := by
            unfold nextF
            rw [if_neg (by omega), if_neg (by omega), if_neg h39]
          rw [hnx]
          simp only [goAll]
          obtain ⟨σ', h1, h2⟩ := hL.next st' hlen
          rw [h1]
          simp only
          exact ih y (pc + 1) σ' st' r hd2 h2 hr
theorem init_lin (n : Nat) (h : 0 < n) : Lin n (initF n) 0 [] := by
  unfold initF
  refine ⟨by simp, by simp, by simp, by simp [List.getElem?_set, h], fun k h1 h2 => ?_, fun k hk => ?_, h⟩
  · simp only [List.getElem?_set]
    rw [if_neg (by omega)]
    simp [h2]
  · simp only [List.getElem?_set, List.length_replicate]
    by_cases h1 : 0 = k
    · subst h1; simp [h]
    · rw [if_neg h1]
      simp [hk]; omega
theorem run_more {i : Img} {m : Mth} {n k : Nat} {σ : VS} {r : Nat × Int} (h : runF i m n σ = some r) (hk : n ≤ k) : runF i m k σ = some r := by
  induction n generalizing k σ with
  | zero => cases h
  | succ n ih =>
    obtain ⟨k, rfl⟩ : ∃ j, k = j + 1 := ⟨k - 1, by omega⟩
    rw [runF] at h ⊢
    split at h
    · exact h
    · exact ih h (by omega)
theorem meth_more {i : Img} {m : Mth} {n k : Nat} {r : Nat × Int} (h : methF i m n = some r) (hk : n ≤ k) : methF i m k = some r := by
  unfold methF at h ⊢
  split at h
  · exact h
  · exact run_more h hk
theorem meth_lin (i : Img) (m : Mth) (x : Ins) (l : List Ins) (r : Nat × Int) (hc : m.code = x :: l) (hn : ∀ y ∈ m.code, namesF i m y = true) (hr : linF i m m.code 0 [] = some r) : methF i m (l.length + 2) = some r := by
  unfold methF
  have h0 : m.code.findIdx? (fun x => !namesF i m x) = none := by
    rw [List.findIdx?_eq_none_iff]
    intro y hy
    simp [hn y hy]
  rw [h0]
  refine run_lin i m l x 0 _ [] r (by simpa using hc) (init_lin _ (by rw [hc]; simp)) (by rw [← hc]; exact hr)

/-! The statements' applets. -/
theorem flatMap_leI {α β : Type} {en : α → List β} {l : List α} {k : Nat} (h : ∀ x ∈ l, (en x).length ≤ k) : (l.flatMap en).length ≤ l.length * k := by
  induction l with
  | nil => simp
  | cons x l ih =>
    have h1 := h x (by simp)
    have h2 := ih (fun y hy => h y (by simp [hy]))
    rw [List.flatMap_cons, List.length_append, List.length_cons, Nat.add_mul]
    omega
def fieldsL : List Int := [2, 1]
def itemL (h : Int) : List Ins :=
  if h = 0 then [⟨1, 3, 0⟩, ⟨6, 0, 0⟩] else if h = 1 then [⟨15, 0, 0⟩] else if h = 2 then [⟨3, 1, 0⟩, ⟨2, 1, 0⟩] else if h = 3 then [⟨34, 0, 0⟩, ⟨33, 0, 0⟩]
  else if h = 4 then [⟨1, 0, 0⟩, ⟨1, 1, 0⟩, ⟨22, 0, 0⟩] else if h = 5 then [⟨5, 0, 0⟩, ⟨19, 0, 0⟩] else if h = 6 then [⟨1, 7, 0⟩, ⟨21, 0, 0⟩] else [⟨37, 1, 0⟩]
def endL (e : Int) : List Ins :=
  if e = 0 then [⟨24, 0, 0⟩] else if e = 1 then [⟨27, 4, 0⟩, ⟨4, 0, 0⟩] else if e = 2 then [⟨3, 0, 0⟩] else if e = 3 then [⟨34, 1, 0⟩] else if e = 4 then [⟨1, 2, 0⟩, ⟨17, 0, 0⟩, ⟨4, 0, 0⟩]
  else if e = 5 then [⟨5, 0, 0⟩, ⟨18, 0, 0⟩, ⟨4, 0, 0⟩] else if e = 6 then [⟨3, 1, 0⟩] else if e = 7 then [⟨34, 0, 0⟩] else [⟨4, 0, 0⟩]
def headL : List Ins := [⟨35, 2, 0⟩, ⟨1, 0, 0⟩, ⟨29, 0, 0⟩]
def codeL (hs : List Int) (e : Int) : List Ins := headL ++ (hs.flatMap itemL ++ (endL e ++ [⟨39, 0, 0⟩]))
def m0L (c : List Ins) : Mth := ⟨[], 0, [1, 2], c⟩
def m1L : Mth := ⟨[2], 2, [], [⟨2, 0, 0⟩, ⟨39, 0, 0⟩]⟩
def imgL (c : List Ins) : Img := ⟨[97], [2, 1], [], [m0L c, m1L], []⟩
theorem lin_item (c : List Ins) (h : Int) (hh : 0 ≤ h ∧ h ≤ 7) (l : List Ins) (pc : Nat) : linF (imgL c) (m0L c) (itemL h ++ l) pc [2] = linF (imgL c) (m0L c) l (pc + (itemL h).length) [2] := by
  have h8 : h = 0 ∨ h = 1 ∨ h = 2 ∨ h = 3 ∨ h = 4 ∨ h = 5 ∨ h = 6 ∨ h = 7 := by omega
  rcases h8 with rfl | rfl | rfl | rfl | rfl | rfl | rfl | rfl <;> rfl
theorem lin_items (c : List Ins) (hs : List Int) (hh : ∀ h ∈ hs, 0 ≤ h ∧ h ≤ 7) (l : List Ins) : ∀ pc, linF (imgL c) (m0L c) (hs.flatMap itemL ++ l) pc [2] = linF (imgL c) (m0L c) l (pc + (hs.flatMap itemL).length) [2] := by
  induction hs with
  | nil => intro pc; simp
  | cons h hs ih =>
    intro pc
    rw [List.flatMap_cons, List.append_assoc, lin_item c h (hh h (by simp)), ih (fun x hx => hh x (by simp [hx])), List.length_append, Nat.add_assoc]
/-- Where it is refused, and how. -/
def endR (at0 : Nat) (e : Int) : Nat × Int := if e = 4 ∨ e = 5 then (at0 + 1, 12) else if e < 4 then (at0, 12) else (0, 0)
theorem lin_end (c : List Ins) (e : Int) (he : 0 ≤ e ∧ e ≤ 8) (pc : Nat) : linF (imgL c) (m0L c) (endL e ++ [⟨39, 0, 0⟩]) pc [2] = some (endR pc e) := by
  have h8 : e = 0 ∨ e = 1 ∨ e = 2 ∨ e = 3 ∨ e = 4 ∨ e = 5 ∨ e = 6 ∨ e = 7 ∨ e = 8 := by omega
  rcases h8 with rfl | rfl | rfl | rfl | rfl | rfl | rfl | rfl | rfl <;> rfl
theorem lin_leaks (hs : List Int) (e : Int) (hh : ∀ h ∈ hs, 0 ≤ h ∧ h ≤ 7) (he : 0 ≤ e ∧ e ≤ 8) (c : List Ins) : linF (imgL c) (m0L c) (codeL hs e) 0 [] = some (endR (3 + (hs.flatMap itemL).length) e) := by
  have h1 : linF (imgL c) (m0L c) (codeL hs e) 0 [] = linF (imgL c) (m0L c) (hs.flatMap itemL ++ (endL e ++ [⟨39, 0, 0⟩])) 3 [2] := rfl
  rw [h1, lin_items c hs hh, lin_end c e he]
def allL : List Ins := headL ++ ([0, 1, 2, 3, 4, 5, 6, 7].flatMap itemL ++ ([0, 1, 2, 3, 4, 5, 6, 7, 8].flatMap endL ++ [⟨39, 0, 0⟩]))
theorem mem_codeL {hs : List Int} {e : Int} (hh : ∀ h ∈ hs, 0 ≤ h ∧ h ≤ 7) (he : 0 ≤ e ∧ e ≤ 8) {y : Ins} (hy : y ∈ codeL hs e) : y ∈ allL := by
  unfold codeL at hy
  unfold allL
  simp only [List.mem_append] at hy ⊢
  rcases hy with hy | hy | hy | hy
  · exact .inl hy
  · refine .inr (.inl ?_)
    rw [List.mem_flatMap] at hy ⊢
    obtain ⟨h, h1, h2⟩ := hy
    refine ⟨h, ?_, h2⟩
    have := hh h h1
    have h8 : h = 0 ∨ h = 1 ∨ h = 2 ∨ h = 3 ∨ h = 4 ∨ h = 5 ∨ h = 6 ∨ h = 7 := by omega
    rcases h8 with rfl | rfl | rfl | rfl | rfl | rfl | rfl | rfl <;> simp
  · refine .inr (.inr (.inl ?_))
    rw [List.mem_flatMap]
    refine ⟨e, ?_, hy⟩
    have h8 : e = 0 ∨ e = 1 ∨ e = 2 ∨ e = 3 ∨ e = 4 ∨ e = 5 ∨ e = 6 ∨ e = 7 ∨ e = 8 := by omega
    rcases h8 with rfl | rfl | rfl | rfl | rfl | rfl | rfl | rfl | rfl <;> simp
  · exact .inr (.inr (.inr hy))
theorem all_names (c : List Ins) (hc : 0 < c.length) : ∀ y ∈ allL, namesF (imgL c) (m0L c) y = true := by
  intro y hy
  have h : ∀ y ∈ allL, (y.op = 24 ∧ y.a = 0) ∨ (y.op ≠ 23 ∧ y.op ≠ 24 ∧ namesF (imgL []) (m0L []) y = true) := by decide
  rcases h y hy with ⟨h1, h2⟩ | ⟨h1, h2, h3⟩
  · unfold namesF
    simp only [h1, h2]
    simp [m0L, hc]
  · unfold namesF at h3 ⊢
    have h4 : ¬ (y.op = 23 ∨ y.op = 24) := by omega
    rw [if_neg h4] at h3 ⊢
    exact h3
theorem all_right : ∀ y ∈ allL, insB y = true := by decide
theorem len_items (hs : List Int) (h : hs.length ≤ 12) : (hs.flatMap itemL).length ≤ 36 := by
  have h1 : ∀ x : Int, (itemL x).length ≤ 3 := fun x => by unfold itemL; repeat' split
                                                           all_goals decide
  have := flatMap_leI (en := itemL) (l := hs) (k := 3) (fun x _ => h1 x)
  omega
theorem len_codeL (hs : List Int) (e : Int) (h : hs.length ≤ 12) : 1 ≤ (codeL hs e).length ∧ (codeL hs e).length ≤ 43 := by
  have h1 := len_items hs h
  have h2 : (endL e).length ≤ 3 := by unfold endL; repeat' split
                                      all_goals decide
  unfold codeL headL
  simp only [List.length_append, List.length_cons, List.length_nil]
  omega
theorem img_leaks (hs : List Int) (e : Int) (h : hs.length ≤ 12) (hh : ∀ h ∈ hs, 0 ≤ h ∧ h ≤ 7) (he : 0 ≤ e ∧ e ≤ 8) : imgB (imgL (codeL hs e)) = true := by
  have hl := len_codeL hs e h
  have ha : (codeL hs e).all insB = true := List.all_eq_true.2 (fun y hy => all_right y (mem_codeL hh he hy))
  have hn : nameB [97] = true := by decide +kernel
  have hm1 : mthB m1L = true := by decide
  have hm0 : mthB (m0L (codeL hs e)) = true := by
    unfold mthB m0L
    simp [kindsB, kindB, resB, ha, hl.1]
    omega
  unfold imgB imgL
  simp [hn, hm0, hm1, kindsB, kindB, firstB]
  exact ⟨rfl, rfl⟩
theorem meth_leaks (hs : List Int) (e : Int) (h : hs.length ≤ 12) (hh : ∀ h ∈ hs, 0 ≤ h ∧ h ≤ 7) (he : 0 ≤ e ∧ e ≤ 8) : methF (imgL (codeL hs e)) (m0L (codeL hs e)) 45 = some (endR (3 + (hs.flatMap itemL).length) e) ∧ methF (imgL (codeL hs e)) m1L 45 = some (0, 0) := by
  have hl := len_codeL hs e h
  refine ⟨?_, rfl⟩
  obtain ⟨x, l, hc⟩ : ∃ x l, codeL hs e = x :: l := ⟨_, _, rfl⟩
  have hlen := congrArg List.length hc
  have h1 := meth_lin (imgL (codeL hs e)) (m0L (codeL hs e)) x l (endR (3 + (hs.flatMap itemL).length) e) hc (fun y hy => all_names _ hl.1 y (mem_codeL hh he hy)) (lin_leaks hs e hh he _)
  refine meth_more h1 ?_
  simp at hlen
  omega
def wayL (b : Bool) : List Ins := if b then [⟨35, 2, 0⟩, ⟨1, 0, 0⟩, ⟨29, 0, 0⟩] else [⟨35, 1, 0⟩, ⟨1, 0, 0⟩, ⟨29, 0, 0⟩]
def codeJ (left right ask : Bool) : List Ins := [⟨1, 1, 0⟩, ⟨24, 6, 0⟩] ++ (wayL left ++ ([⟨23, 9, 0⟩] ++ (wayL right ++ [if ask then ⟨27, 3, 0⟩ else ⟨4, 0, 0⟩, ⟨39, 0, 0⟩])))
def oneM (c : List Ins) : Mth := ⟨[], 0, [], c⟩
def oneI (c : List Ins) : Img := ⟨[97], [], [], [oneM c], []⟩
def wantJ (left right : Bool) : Int := if left || right then 2 else 1
theorem joins_names (left right ask : Bool) : (codeJ left right ask).findIdx? (fun x => !namesF (oneI (codeJ left right ask)) (oneM (codeJ left right ask)) x) = none := by
  cases left <;> cases right <;> cases ask <;> rfl
theorem joins_run (left right ask : Bool) : ∃ τ, runG (oneI (codeJ left right ask)) (oneM (codeJ left right ask)) 40 (initF 11) = some (if ask && (left || right) then (9, 12) else (0, 0), τ) ∧ τ.sts.length = 11 ∧ τ.sts[9]? = some [wantJ left right] := by
  cases left <;> cases right <;> cases ask <;> exact ⟨_, rfl, rfl, rfl⟩
theorem name_a : nameB [97] = true := by decide +kernel
theorem one_right (c : List Ins) (h : c.all insB = true) (hl : 1 ≤ c.length ∧ c.length ≤ 120) : imgB (oneI c) = true := by
  have hm0 : mthB (oneM c) = true := by
    unfold mthB oneM
    simp [kindsB, kindB, resB, h, hl.1, hl.2]
  unfold imgB oneI
  simp [name_a, hm0, kindsB, kindB, firstB]
  exact ⟨rfl, rfl⟩
theorem joins_right (left right ask : Bool) : imgB (oneI (codeJ left right ask)) = true :=
  one_right _ (by cases left <;> cases right <;> cases ask <;> decide) (by cases left <;> cases right <;> cases ask <;> decide)
/-- All methods, one behind the other. -/
def verLoop (i : Img) (fuel : Nat) : List Mth → Nat → Option ((Nat × Nat) × Int)
  | [], _ => some ((0, 0), 0)
  | m :: l, k => match methF i m fuel with
    | none => none
    | some (pc, e) => if e = 0 then verLoop i fuel l (k + 1) else some ((k, pc), e)
def verF (i : Img) (fuel : Nat) : Option ((Nat × Nat) × Int) := if imgB i = true then verLoop i fuel i.methods 0 else some ((0, 0), 1)
theorem ver_leaks (hs : List Int) (e : Int) (h : hs.length ≤ 12) (hh : ∀ h ∈ hs, 0 ≤ h ∧ h ≤ 7) (he : 0 ≤ e ∧ e ≤ 8) : verF (imgL (codeL hs e)) 45 = some ((0, (endR (3 + (hs.flatMap itemL).length) e).1), (endR (3 + (hs.flatMap itemL).length) e).2) := by
  obtain ⟨h1, h2⟩ := meth_leaks hs e h hh he
  unfold verF
  rw [if_pos (img_leaks hs e h hh he)]
  show verLoop _ _ [m0L (codeL hs e), m1L] 0 = _
  unfold verLoop
  rw [h1]
  generalize (hs.flatMap itemL).length = n
  unfold endR
  simp only
  split
  · rw [if_neg (by simp)]
  · split
    · rw [if_neg (by simp)]
    · rw [if_pos rfl]
      unfold verLoop
      rw [h2]
      rfl
theorem runF_of {i : Img} {m : Mth} {n : Nat} : ∀ {σ τ : VS} {r : Nat × Int}, runG i m n σ = some (r, τ) → runF i m n σ = some r := by
  induction n with
  | zero => intro σ τ r h; cases h
  | succ n ih =>
    intro σ τ r h
    rw [runG] at h
    rw [runF]
    split at h
    · simp only [Option.some.injEq, Prod.mk.injEq] at h
      rw [h.1]
    · exact ih h
theorem ver_one {c : List Ins} {fuel : Nat} {r : Nat × Int} (h1 : c.all insB = true) (h2 : 1 ≤ c.length ∧ c.length ≤ 120) (h : methF (oneI c) (oneM c) fuel = some r) (h0 : r.2 = 0 → r.1 = 0) : verF (oneI c) fuel = some ((0, r.1), r.2) := by
  unfold verF
  rw [if_pos (one_right c h1 h2)]
  show verLoop _ _ [oneM c] 0 = _
  unfold verLoop
  rw [h]
  obtain ⟨a, b⟩ := r
  simp only at h0 ⊢
  by_cases hb : b = 0
  · rw [if_pos hb, h0 hb, hb]; rfl
  · rw [if_neg hb]
theorem ver_joins (left right ask : Bool) : verF (oneI (codeJ left right ask)) 40 = some (if ask && (left || right) then ((0, 9), 12) else ((0, 0), 0)) := by
  obtain ⟨τ, h, _⟩ := joins_run left right ask
  have h1 : methF (oneI (codeJ left right ask)) (oneM (codeJ left right ask)) 40 = some (if ask && (left || right) then (9, 12) else (0, 0)) := by
    unfold methF
    rw [show (oneM (codeJ left right ask)).code = codeJ left right ask from rfl, joins_names]
    have hl : (codeJ left right ask).length = 11 := by cases left <;> cases right <;> cases ask <;> rfl
    rw [hl]
    exact runF_of h
  rw [ver_one (by cases left <;> cases right <;> cases ask <;> decide) (by cases left <;> cases right <;> cases ask <;> decide) h1 (by cases left <;> cases right <;> cases ask <;> decide)]
  cases left <;> cases right <;> cases ask <;> rfl
/-! Chapter 7's example, and each refusal. -/
theorem ver_k0 : verF noImg 9 = some ((0, 0), 1) := by
  have : imgB noImg = false := by
    unfold imgB noImg
    simp [nameB]
  unfold verF
  rw [this]
  rfl
theorem ver_k1 : verF (oneI [⟨2, 0, 0⟩, ⟨39, 0, 0⟩]) 9 = some ((0, 0), 9) := ver_one (r := (0, 9)) (by decide) (by decide) rfl (by decide)
theorem ver_k2 : verF (oneI [⟨4, 0, 0⟩, ⟨39, 0, 0⟩]) 9 = some ((0, 0), 10) := ver_one (r := (0, 10)) (by decide) (by decide) rfl (by decide)
theorem ver_k3 : verF (oneI [⟨35, 1, 0⟩, ⟨15, 0, 0⟩, ⟨39, 0, 0⟩]) 9 = some ((0, 1), 11) := ver_one (r := (1, 11)) (by decide) (by decide) rfl (by decide)
theorem ver_k4 : verF (oneI [⟨1, 0, 0⟩]) 9 = some ((0, 0), 13) := ver_one (r := (0, 13)) (by decide) (by decide) rfl (by decide)
theorem ver_k5 : verF (oneI [⟨1, 0, 0⟩, ⟨24, 3, 0⟩, ⟨1, 0, 0⟩, ⟨39, 0, 0⟩]) 9 = some ((0, 2), 14) := ver_one (r := (2, 14)) (by decide) (by decide) rfl (by decide)
theorem ver_k6 : verF (oneI [⟨35, 2, 0⟩, ⟨1, 0, 0⟩, ⟨29, 0, 0⟩, ⟨24, 0, 0⟩]) 9 = some ((0, 3), 12) := ver_one (r := (3, 12)) (by decide) (by decide) rfl (by decide)
theorem ver_k7 : verF (oneI [⟨1, 0, 0⟩, ⟨4, 0, 0⟩, ⟨39, 0, 0⟩]) 9 = some ((0, 0), 0) := ver_one (r := (0, 0)) (by decide) (by decide) rfl (by decide)
theorem ver_k8 : verF (oneI [⟨1, 0, 0⟩, ⟨39, 0, 0⟩, ⟨39, 0, 0⟩]) 9 = some ((0, 0), 0) ∧ ∃ τ, runG (oneI [⟨1, 0, 0⟩, ⟨39, 0, 0⟩, ⟨39, 0, 0⟩]) (oneM [⟨1, 0, 0⟩, ⟨39, 0, 0⟩, ⟨39, 0, 0⟩]) 9 (initF 3) = some ((0, 0), τ) ∧ τ.sts = [[], [1], []] ∧ τ.has = [true, true, false] := ⟨ver_one (r := (0, 0)) (by decide) (by decide) rfl (by decide), _, rfl, rfl, rfl⟩
theorem ver_k9 : verF (oneI [⟨39, 0, 0⟩, ⟨39, 0, 0⟩]) 9 = some ((0, 0), 0) ∧ ∃ τ, runG (oneI [⟨39, 0, 0⟩, ⟨39, 0, 0⟩]) (oneM [⟨39, 0, 0⟩, ⟨39, 0, 0⟩]) 9 (initF 2) = some ((0, 0), τ) ∧ τ.sts = [[], []] ∧ τ.has = [true, false] := ⟨ver_one (r := (0, 0)) (by decide) (by decide) rfl (by decide), _, rfl, rfl, rfl⟩
theorem ver_k10 : verF (oneI [⟨39, 0, 0⟩]) 9 = some ((0, 0), 0) ∧ ∃ τ, runG (oneI [⟨39, 0, 0⟩]) (oneM [⟨39, 0, 0⟩]) 9 (initF 1) = some ((0, 0), τ) ∧ τ.sts = [[]] ∧ τ.has = [true] := ⟨ver_one (r := (0, 0)) (by decide) (by decide) rfl (by decide), _, rfl, rfl, rfl⟩
end Go.Proofs.YtpabkjjonbhdeaaDoor
