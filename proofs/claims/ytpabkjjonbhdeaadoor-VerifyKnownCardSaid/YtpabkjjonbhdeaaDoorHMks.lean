/-
  HELPERS over any program: operations of a region that draws its order which make memory (calls, too), in whatever order: what each gives holds behind the last. Conditions: what is said of a value stays where no old block is turned.
-/
import Derived.Test.YtpabkjjonbhdeaaDoorHCodeP
import Derived.Deep.RegionHeld3
import Derived.Great.BuildSlice
namespace Go.Tcn
open Go Go.RowKit
set_option linter.unusedVariables false
set_option linter.unusedSimpArgs false
section
variable {P : Program} {ops : Array Oper} {md : Region.Mode} {S : World → Prop} {Q : Exit → Act → World → Prop}
def depsOf (md : Region.Mode) (o : Oper) : List Nat := (o.after.toList.filter (Region.binds md ·)).map (·.on)
theorem mem_depsOf {o : Oper} {e : Nat} : e ∈ depsOf md o ↔ ∃ x ∈ o.after, Region.binds md x = true ∧ x.on = e := by
  unfold depsOf
  simp only [List.mem_map, List.mem_filter, Array.mem_toList_iff]
  constructor
  · rintro ⟨x, ⟨h1, h2⟩, h3⟩; exact ⟨x, h1, h2, h3⟩
  · rintro ⟨x, h1, h2, h3⟩; exact ⟨x, ⟨h1, h2⟩, h3⟩
def needsB (md : Region.Mode) (ops : Array Oper) (mk : List Nat) (i : Nat) : Nat → Nat → Bool
  | 0, _ => false
  | f + 1, j => match ops[j]? with
    | none => false
    | some o => (depsOf md o).any fun e => e == i || (mk.contains e && needsB md ops mk i f e)
def dstO (ops : Array Oper) (i : Nat) : Nat := ((ops[i]?).bind (·.dst)).getD 0
/-- What the order asks, as a Bool. -/
def makersB (md : Region.Mode) (ops : Array Oper) (listed : Array Bool) (mk : List Nat) (size : Nat) : Bool :=
  mk.all (fun i => !listed.getD i true && match ops[i]? with
    | none => false
    | some o => o.guard.isNone && o.dst.isSome && decide (dstO ops i < size) && (depsOf md o).all fun e => listed.getD e false || (mk.contains e && decide (e < i))) &&
  mk.all (fun i => mk.all fun j => i == j || dstO ops i != dstO ops j) &&
  (List.range ops.size).all fun j => listed.getD j true || mk.contains j || (match ops[j]? with | none => false | some o => (depsOf md o).any fun e => !listed.getD e false && !mk.contains e) || mk.all fun i => needsB md ops mk i (mk.length + 1) j
def setL (l : Array Bool) (s : List Nat) : Array Bool := s.foldl (fun l i => l.setIfInBounds i true) l
theorem setL_size (s : List Nat) : ∀ l : Array Bool, (setL l s).size = l.size := by
  induction s with
  | nil => intro l; rfl
  | cons i s ih => intro l; unfold setL at *; rw [List.foldl_cons, ih]; simp
theorem setL_get (s : List Nat) : ∀ (l : Array Bool) (j : Nat), (setL l s)[j]? = if j ∈ s ∧ j < l.size then some true else l[j]? := by
  induction s with
  | nil => intro l j; simp [setL]
  | cons i s ih =>
    intro l j
    have h := ih (l.setIfInBounds i true) j
    unfold setL at *
    rw [List.foldl_cons, h]
    simp only [Array.size_setIfInBounds, List.mem_cons]
    by_cases h1 : j ∈ s ∧ j < l.size
    · rw [if_pos h1, if_pos ⟨.inr h1.1, h1.2⟩]
    · rw [if_neg h1]
      by_cases h2 : i = j
      · subst h2
        by_cases h3 : i < l.size
        · rw [if_pos ⟨.inl rfl, h3⟩]; simp [h3]
        · rw [if_neg (fun h => h3 h.2)]; simp [h3]
      · rw [if_neg (fun h => by rcases h.1 with h4 | h4; exact h2 h4.symm; exact h1 ⟨h4, h.2⟩)]
        simp [Array.getElem?_setIfInBounds, h2]
theorem setL_ext {l : Array Bool} {s s' : List Nat} (h : ∀ i, i ∈ s ↔ i ∈ s') : setL l s = setL l s' := by
  apply Array.ext_getElem?
  intro j
  rw [setL_get, setL_get]
  simp only [h]
theorem setL_snoc (l : Array Bool) (s : List Nat) (i : Nat) : (setL l s).setIfInBounds i true = setL l (s ++ [i]) := by
  unfold setL; rw [List.foldl_append]; rfl
def putL (ops : Array Oper) (vs : Nat → Value) (s : List Nat) (a : Act) : Act := s.foldl (fun a i => a.put (some (dstO ops i)) (vs i)) a
theorem putL_snoc (vs : Nat → Value) (s : List Nat) (a : Act) (i : Nat) : (putL ops vs s a).put (some (dstO ops i)) (vs i) = putL ops vs (s ++ [i]) a := by
  unfold putL; rw [List.foldl_append]; rfl
theorem putL_defers (vs : Nat → Value) (s : List Nat) : ∀ a, (putL ops vs s a).defers = a.defers := by
  induction s with
  | nil => intro a; rfl
  | cons i s ih => intro a; unfold putL at *; rw [List.foldl_cons, ih]; rfl
theorem putL_size (vs : Nat → Value) (s : List Nat) : ∀ a, (putL ops vs s a).tmps.size = a.tmps.size := by
  induction s with
  | nil => intro a; rfl
  | cons i s ih => intro a; unfold putL at *; rw [List.foldl_cons, ih]; simp [Act.put]
theorem putL_congr {vs vs' : Nat → Value} {s : List Nat} (h : ∀ i ∈ s, vs i = vs' i) : ∀ a, putL ops vs s a = putL ops vs' s a := by
  induction s with
  | nil => intro a; rfl
  | cons i s ih =>
    intro a
    unfold putL at *
    rw [List.foldl_cons, List.foldl_cons, h i (by simp), ih (fun j hj => h j (by simp [hj]))]
/-- A slot that none of them writes. -/
theorem putL_other (vs : Nat → Value) (k : Nat) (s : List Nat) : ∀ a, (∀ i ∈ s, dstO ops i ≠ k) → (putL ops vs s a).tmps[k]? = a.tmps[k]? := by
  induction s with
  | nil => intro a _; rfl
  | cons i s ih =>
    intro a h
    have h1 := ih (a.put (some (dstO ops i)) (vs i)) (fun j hj => h j (by simp [hj]))
    unfold putL at *
    rw [List.foldl_cons, h1]
    have := h i (by simp)
    simp [Act.put, Array.getElem?_setIfInBounds, this]
/-- A slot that one of them writes. -/
theorem putL_own (vs : Nat → Value) (i : Nat) (s : List Nat) : ∀ a : Act, i ∈ s → (∀ j ∈ s, dstO ops j = dstO ops i → j = i) → dstO ops i < a.tmps.size → (putL ops vs s a).tmps[dstO ops i]? = some (vs i) := by
  induction s with
  | nil => intro a h; cases h
  | cons j s ih =>
    intro a h hd hs
    have e : putL ops vs (j :: s) a = putL ops vs s (a.put (some (dstO ops j)) (vs j)) := rfl
    rw [e]
    by_cases hi : i ∈ s
    · exact ih _ hi (fun k hk => hd k (by simp [hk])) (by simpa [Act.put] using hs)
    · have hij : i = j := by
        rcases List.mem_cons.1 h with h | h
        · exact h
        · exact absurd h hi
      subst hij
      rw [putL_other vs (dstO ops i) s _ (fun k hk hx => by
        have := hd k (by simp [hk]) hx
        subst this
        exact hi hk)]
      simp [Act.put, hs]
theorem putL_ext {vs : Nat → Value} {s s' : List Nat} {a : Act} (h : ∀ i, i ∈ s ↔ i ∈ s') (hd : ∀ i ∈ s, ∀ j ∈ s, dstO ops j = dstO ops i → j = i) (hs : ∀ i ∈ s, dstO ops i < a.tmps.size) : putL ops vs s a = putL ops vs s' a := by
  have h1 : (putL ops vs s a).tmps = (putL ops vs s' a).tmps := by
    apply Array.ext_getElem?
    intro k
    by_cases hk : ∃ i ∈ s, dstO ops i = k
    · obtain ⟨i, hi, rfl⟩ := hk
      rw [putL_own vs i s a hi (fun j hj => hd i hi j hj) (hs i hi), putL_own vs i s' a ((h i).1 hi) (fun j hj => hd i hi j ((h j).2 hj)) (hs i hi)]
    · have hn : ∀ i ∈ s, dstO ops i ≠ k := fun i hi e => hk ⟨i, hi, e⟩
      rw [putL_other vs k s a hn, putL_other vs k s' a (fun i hi => hn i ((h i).2 hi))]
  have h2 : (putL ops vs s a).defers = (putL ops vs s' a).defers := by rw [putL_defers, putL_defers]
  cases hx : putL ops vs s a
  cases hy : putL ops vs s' a
  rw [hx, hy] at h1 h2
  simp only at h1 h2
  rw [h1, h2]
/-- What the makers have given so far. -/
structure Made (w w' : World) (φ : Nat → Value → World → Prop) (ow : Nat → Value → Option Nat) (vs : Nat → Value) (s : List Nat) : Prop where
  t : Tch [] w w'
  f : ∀ i ∈ s, φ i (vs i) w'
  b : ∀ i ∈ s, ∀ k, ow i (vs i) = some k → w.heap.size ≤ k ∧ k < w'.heap.size
  d : ∀ i ∈ s, ∀ j ∈ s, i ≠ j → ∀ k, ow i (vs i) = some k → ow j (vs j) ≠ some k
theorem Act.tmps_getD (a : Act) (k : Nat) : a.tmps.getD k undef = (a.tmps[k]?).getD undef := by simp
/-- What is listed, of those that are done. -/
theorem listed_of {listed : Array Bool} {s : List Nat} {j : Nat} (h : (setL listed s).getD j false = false) (hj : j < listed.size) : j ∉ s ∧ listed.getD j false = false := by
  rw [Array.getD_eq_getD_getElem?, setL_get] at h
  by_cases hs : j ∈ s
  · rw [if_pos ⟨hs, hj⟩] at h; cases h
  · rw [if_neg (fun h => hs h.1)] at h
    exact ⟨hs, by rw [Array.getD_eq_getD_getElem?]; exact h⟩
theorem unlisted_of {listed : Array Bool} {s : List Nat} {j : Nat} (h : listed.getD j true = false) (hs : j ∉ s) (d : Bool) : (setL listed s).getD j d = false := by
  have hj : listed[j]? = some false := by
    rw [Array.getD_eq_getD_getElem?] at h
    cases hx : listed[j]? with
    | none => rw [hx] at h; cases h
    | some b => rw [hx] at h; simpa using h
  rw [Array.getD_eq_getD_getElem?, setL_get, if_neg (fun h => hs h.1), hj]
  rfl
theorem listed_in {listed : Array Bool} {s : List Nat} {j : Nat} (h : listed.getD j true = false) (hs : j ∈ s) (d : Bool) : (setL listed s).getD j d = true := by
  have hj : j < listed.size := by
    rcases Nat.lt_or_ge j listed.size with h1 | h1
    · exact h1
    · rw [Array.getD_eq_getD_getElem?, Array.getElem?_eq_none h1] at h; cases h
  rw [Array.getD_eq_getD_getElem?, setL_get, if_pos ⟨hs, hj⟩]
  rfl
theorem listed_old {listed : Array Bool} {s : List Nat} {j : Nat} (h : listed.getD j false = true) : (setL listed s).getD j false = true := by
  rw [Array.getD_eq_getD_getElem?, setL_get]
  by_cases hs : j ∈ s ∧ j < listed.size
  · rw [if_pos hs]; rfl
  · rw [if_neg hs, ← Array.getD_eq_getD_getElem?]; exact h
theorem needs_dep {listed : Array Bool} {mk s : List Nat} {i : Nat} (hmk : ∀ e ∈ mk, listed.getD e true = false) (hid : ∀ e ∈ s, ∀ o, ops[e]? = some o → ∀ d ∈ depsOf md o, (setL listed s).getD d false = true) (hi : i ∈ mk) (his : i ∉ s) :
    ∀ (f j : Nat), needsB md ops mk i f j = true → ∃ o, ops[j]? = some o ∧ ∃ d ∈ depsOf md o, (setL listed s).getD d false = false := by
  intro f
  induction f with
  | zero => intro j h; cases h
  | succ f ih =>
    intro j h
    unfold needsB at h
    cases ho : ops[j]? with
    | none => rw [ho] at h; cases h
    | some o =>
      rw [ho] at h
      simp only [List.any_eq_true, Bool.or_eq_true, beq_iff_eq, Bool.and_eq_true, List.contains_iff_mem] at h
      obtain ⟨e, he, h⟩ := h
      rcases h with h | ⟨h1, h2⟩
      · subst h
        exact ⟨o, rfl, e, he, unlisted_of (hmk e hi) his _⟩
      · by_cases hes : e ∈ s
        · obtain ⟨o', ho', d, hd, hl⟩ := ih e h2
          have := hid e hes o' ho' d hd
          rw [this] at hl
          cases hl
        · exact ⟨o, rfl, e, he, unlisted_of (hmk e h1) hes _⟩
theorem filter_less (i : Nat) (s : List Nat) (his : i ∉ s) : ∀ mk : List Nat, mk.Nodup → i ∈ mk → (mk.filter fun j => !(s ++ [i]).contains j).length + 1 = (mk.filter fun j => !s.contains j).length := by
  intro mk
  induction mk with
  | nil => intro _ h; cases h
  | cons j mk ih =>
    intro hn h
    rw [List.nodup_cons] at hn
    by_cases hj : i = j
    · subst hj
      have h1 : (mk.filter fun j => !(s ++ [i]).contains j) = (mk.filter fun j => !s.contains j) := by
        apply List.filter_congr
        intro x hx
        have : x ≠ i := fun e => hn.1 (e ▸ hx)
        simp [this]
      rw [List.filter_cons_of_neg (by simp), List.filter_cons_of_pos (by simp [his]), h1]
      rfl
    · have hi : i ∈ mk := by
        rcases List.mem_cons.1 h with h | h
        · exact absurd h hj
        · exact h
      have h1 := ih hn.2 hi
      have hc : (s ++ [i]).contains j = s.contains j := by
        have : j ≠ i := fun e => hj e.symm
        simp [this]
      rw [List.filter_cons, List.filter_cons, hc]
      split
      · rw [List.length_cons, List.length_cons]; omega
      · exact h1
theorem least_in (p : Nat → Prop) : ∀ n, p n → ∃ i, p i ∧ ∀ j, j < i → ¬ p j := by
  intro n
  induction n using Nat.strongRecOn with
  | _ n ih =>
    intro h
    by_cases hx : ∃ m, m < n ∧ p m
    · obtain ⟨m, h1, h2⟩ := hx
      exact ih m h1 h2
    · exact ⟨n, h, fun j hj hp => hx ⟨j, hj, hp⟩⟩
/-- THE LAW. -/
theorem wpAnyH_makers {fuel : Nat} {listed : Array Bool} {a : Act} {w : World} (mk : List Nat) (hB : makersB md ops listed mk a.tmps.size = true) (hn : mk.Nodup)
    (φ : Nat → Value → World → Prop) (ow : Nat → Value → Option Nat) (hφ : ∀ i v x y, φ i v x → Tch [] x y → φ i v y) (hS : ∀ x y, S x → Tch [] x y → S y) (hSw : S w)
    (hstep : ∀ i ∈ mk, ∀ o : Oper, ops[i]? = some o → ∀ (a' : Act) (w' : World), Tch [] w w' → (∀ k, (∀ j ∈ mk, dstO ops j ≠ k) → a'.tmps.getD k undef = a.tmps.getD k undef) → (∀ e ∈ mk, e ∈ depsOf md o → φ e (a'.tmps.getD (dstO ops e) undef) w') →
      ∀ K : Act → World → Prop, (∀ v w'', Tch [] w' w'' → φ i v w'' → (∀ k, ow i v = some k → w'.heap.size ≤ k ∧ k < w''.heap.size) → K (a'.put o.dst v) w'') → o.wp P a' w' K Q)
    (hend : ∀ vs w', Made w w' φ ow vs mk → S w' → wpAnyH P md ops Q S fuel (setL listed mk) (putL ops vs mk a) w') :
    wpAnyH P md ops Q S (mk.length + fuel) listed a w := by
  unfold makersB at hB
  simp only [Bool.and_eq_true, List.all_eq_true] at hB
  obtain ⟨⟨hA, hD⟩, hW⟩ := hB
  have hun : ∀ i ∈ mk, listed.getD i true = false := fun i hi => by have := (hA i hi).1; simpa using this
  have hop : ∀ i ∈ mk, ∃ o, ops[i]? = some o ∧ o.guard = none ∧ o.dst = some (dstO ops i) ∧ dstO ops i < a.tmps.size ∧ ∀ e ∈ depsOf md o, listed.getD e false = true ∨ (e ∈ mk ∧ e < i) := fun i hi => by
    have := (hA i hi).2
    cases ho : ops[i]? with
    | none => rw [ho] at this; cases this
    | some o =>
      rw [ho] at this
      simp only [Bool.and_eq_true, decide_eq_true_eq, List.all_eq_true, Bool.or_eq_true, List.contains_iff_mem, Option.isNone_iff_eq_none] at this
      obtain ⟨⟨⟨h1, h2⟩, h3⟩, h4⟩ := this
      refine ⟨o, rfl, h1, ?_, h3, h4⟩
      unfold dstO
      rw [ho]
      cases hd : o.dst with
      | none => rw [hd] at h2; cases h2
      | some d => simp [hd]
  have hinj : ∀ i ∈ mk, ∀ j ∈ mk, dstO ops j = dstO ops i → j = i := fun i hi j hj e => by
    have := hD i hi j hj
    simp only [Bool.or_eq_true, beq_iff_eq, bne_iff_ne, ne_eq] at this
    rcases this with h | h
    · exact h.symm
    · exact absurd e.symm h
  have main : ∀ (r : Nat) (s : List Nat) (vs : Nat → Value) (w' : World), (mk.filter fun j => !s.contains j).length = r → (∀ i ∈ s, i ∈ mk) → (∀ e ∈ s, ∀ o, ops[e]? = some o → ∀ d ∈ depsOf md o, (setL listed s).getD d false = true) → Made w w' φ ow vs s → S w' →
      wpAnyH P md ops Q S (r + fuel) (setL listed s) (putL ops vs s a) w' := by
    intro r
    induction r with
    | zero =>
      intro s vs w' hr hsub hid hM hSx
      have hall : ∀ i, i ∈ s ↔ i ∈ mk := fun i => ⟨hsub i, fun hi => by
        have h0 := List.eq_nil_of_length_eq_zero hr
        rw [List.filter_eq_nil_iff] at h0
        have := h0 i hi
        simpa using this⟩
      have hM2 : Made w w' φ ow vs mk := ⟨hM.t, fun i hi => hM.f i ((hall i).2 hi), fun i hi => hM.b i ((hall i).2 hi), fun i hi j hj => hM.d i ((hall i).2 hi) j ((hall j).2 hj)⟩
      have := hend vs w' hM2 hSx
      rw [Nat.zero_add, setL_ext hall, putL_ext hall (fun i hi j hj => hinj i (hsub i hi) j (hsub j hj)) (fun i hi => by obtain ⟨_, _, _, _, h, _⟩ := hop i (hsub i hi); exact h)]
      exact this
    | succ r ih =>
      intro s vs w' hr hsub hid hM hSx
      have hex : ∃ n, n ∈ mk ∧ n ∉ s := by
        cases hf : mk.filter fun j => !s.contains j with
        | nil => rw [hf] at hr; cases hr
        | cons n l =>
          have : n ∈ mk.filter fun j => !s.contains j := by rw [hf]; simp
          rw [List.mem_filter] at this
          exact ⟨n, this.1, by simpa using this.2⟩
      obtain ⟨n0, hn0⟩ := hex
      obtain ⟨i0, ⟨hi0, his0⟩, hmin⟩ := least_in (fun n => n ∈ mk ∧ n ∉ s) n0 hn0
      have hready : i0 ∈ Region.ready md ops (setL listed s) := by
        obtain ⟨o, ho, hg, hd, hsz, hdep⟩ := hop i0 hi0
        rw [mem_ready]
        refine ⟨unlisted_of (hun i0 hi0) his0 _, o, ho, fun e he hb => ?_⟩
        rcases hdep e.on (mem_depsOf.2 ⟨e, he, hb, rfl⟩) with h | ⟨h1, h2⟩
        · exact listed_old h
        · have : e.on ∈ s := by
            by_cases hx : e.on ∈ s
            · exact hx
            · exact absurd ⟨h1, hx⟩ (hmin e.on h2)
          exact listed_in (hun _ h1) this _
      rw [show r + 1 + fuel = (r + fuel) + 1 by omega]
      refine ⟨fun h => (by rw [h] at hready; cases hready), fun i hi => ?_⟩
      rw [mem_ready] at hi
      obtain ⟨hiu, o, ho, hdl⟩ := hi
      have hilt : i < ops.size := (Array.getElem?_eq_some_iff.1 ho).1
      have hins : i ∉ s := fun hx => by
        have := listed_in (hun i (hsub i hx)) hx true
        rw [this] at hiu
        cases hiu
      have himk : i ∈ mk := by
        have hw := hW i (List.mem_range.2 hilt)
        simp only [Bool.or_eq_true, List.contains_iff_mem, List.all_eq_true] at hw
        rcases hw with ((h | h) | h) | h
        · exfalso
          rw [Array.getD_eq_getD_getElem?, setL_get, if_neg (fun h => hins h.1), ← Array.getD_eq_getD_getElem?, h] at hiu
          cases hiu
        · exact h
        · exfalso
          rw [ho] at h
          simp only [List.any_eq_true, Bool.and_eq_true, Bool.not_eq_true'] at h
          obtain ⟨e, he, h1, h2⟩ := h
          obtain ⟨x, hx, hb, hxe⟩ := mem_depsOf.1 he
          have h3 := hdl x hx hb
          have hes : e ∉ s := fun hs => by
            have := hsub e hs
            have h4 : mk.contains e = true := List.contains_iff_mem.2 this
            rw [h4] at h2
            cases h2
          rw [hxe, Array.getD_eq_getD_getElem?, setL_get, if_neg (fun h => hes h.1), ← Array.getD_eq_getD_getElem?, h1] at h3
          cases h3
        · exfalso
          obtain ⟨o', ho', d, hd, hl⟩ := needs_dep hun hid hi0 his0 _ _ (h i0 hi0)
          rw [ho] at ho'
          cases ho'
          obtain ⟨e, he, hb, hx⟩ := mem_depsOf.1 hd
          have := hdl e he hb
          rw [hx, hl] at this
          cases this
      obtain ⟨o', ho', hg, hdst, hsz, hdep⟩ := hop i himk
      rw [ho] at ho'
      cases ho'
      have hstep' := hstep i himk o ho (putL ops vs s a) w' hM.t (fun k hk => by
          rw [Act.tmps_getD, Act.tmps_getD, putL_other vs k s a (fun j hj => hk j (hsub j hj))]) (fun e he hed => by
          have hes : e ∈ s := by
            obtain ⟨x, hx, hb, hxe⟩ := mem_depsOf.1 hed
            have h1 := hdl x hx hb
            rw [hxe] at h1
            by_cases hes : e ∈ s
            · exact hes
            · rw [unlisted_of (hun e he) hes] at h1; cases h1
          obtain ⟨_, _, _, _, hsz', _⟩ := hop e he
          rw [Act.tmps_getD, putL_own vs e s a hes (fun j hj => hinj e he j (hsub j hj)) hsz']
          exact hM.f e hes)
      unfold wpOp
      rw [ho]
      simp only [Region.wanted, hg, if_true]
      refine .inl (hstep' _ fun v w'' ht hv hb => ⟨hS _ _ hSx ht, ?_⟩)
      have hvs : ∀ j ∈ s, vs j = (fun j => if j = i then v else vs j) j := fun j hj => by
        have : j ≠ i := fun e => hins (e ▸ hj)
        simp [this]
      have hvj : ∀ j ∈ s, (if j = i then v else vs j) = vs j := fun j hj => (hvs j hj).symm
      have e1 : (putL ops vs s a).put o.dst v = putL ops (fun j => if j = i then v else vs j) (s ++ [i]) a := by
        rw [hdst, putL_congr hvs a, ← putL_snoc]
        simp
      rw [e1, setL_snoc]
      refine ih (s ++ [i]) _ w'' (by have := filter_less i s hins mk hn himk; omega) (fun j hj => ?_) (fun e he oe hoe d hd => ?_) ⟨hM.t.then ht, fun j hj => ?_, fun j hj k hk => ?_, fun j hj l hl hne k hk => ?_⟩ (hS _ _ hSx ht)
      · rcases List.mem_append.1 hj with hj | hj
        · exact hsub j hj
        · rw [List.mem_singleton.1 hj]; exact himk
      · rw [← setL_snoc]
        rcases List.mem_append.1 he with he | he
        · have := hid e he oe hoe d hd
          exact getD_set_true this
        · rw [List.mem_singleton.1 he] at hoe
          rw [ho] at hoe
          cases hoe
          obtain ⟨x, hx, hb', hxe⟩ := mem_depsOf.1 hd
          have := hdl x hx hb'
          rw [hxe] at this
          exact getD_set_true this
      · rcases List.mem_append.1 hj with hj | hj
        · rw [hvj j hj]; exact hφ _ _ _ _ (hM.f j hj) ht
        · rw [List.mem_singleton.1 hj]; simp only [if_true]; exact hv
      · rcases List.mem_append.1 hj with hj | hj
        · rw [hvj j hj] at hk
          have := hM.b j hj k hk
          have := ht.size
          omega
        · rw [List.mem_singleton.1 hj] at hk
          simp only [if_true] at hk
          have := hb k hk
          have := hM.t.size
          omega
      · rcases List.mem_append.1 hj with hj | hj
        · rw [hvj j hj] at hk
          rcases List.mem_append.1 hl with hl | hl
          · rw [hvj l hl]; exact hM.d j hj l hl hne k hk
          · rw [List.mem_singleton.1 hl]
            simp only [if_true]
            intro hk2
            have := hM.b j hj k hk
            have := hb k hk2
            omega
        · rw [List.mem_singleton.1 hj] at hk hne
          simp only [if_true] at hk
          rcases List.mem_append.1 hl with hl | hl
          · rw [hvj l hl]
            intro hk2
            have := hM.b l hl k hk2
            have := hb k hk
            omega
          · rw [List.mem_singleton.1 hl] at hne
            exact absurd rfl hne
  have := main mk.length [] (fun _ => undef) w (by simp) (by simp) (by simp) ⟨Tch.refl [] w, by simp, by simp, by simp⟩ hSw
  exact this
def putD (ds : List (Nat × Nat)) (vs : Nat → Value) (a : Act) : Act := ds.foldl (fun a p => a.put (some p.2) (vs p.1)) a
theorem putD_putL (vs : Nat → Value) (ds : List (Nat × Nat)) (h : ∀ p ∈ ds, dstO ops p.1 = p.2) : ∀ a, putD ds vs a = putL ops vs (ds.map (·.1)) a := by
  induction ds with
  | nil => intro a; rfl
  | cons p ds ih =>
    intro a
    have h1 := ih (fun q hq => h q (by simp [hq])) (a.put (some p.2) (vs p.1))
    unfold putD putL at *
    rw [List.map_cons, List.foldl_cons, List.foldl_cons, h1, h p (by simp)]
def dsB (ops : Array Oper) (ds : List (Nat × Nat)) : Bool := ds.all fun p => dstO ops p.1 == p.2
/-- THE LAW, with the slots named: ds lists each maker's number and slot. -/
theorem wpAnyH_makersD {fuel : Nat} {listed : Array Bool} {a : Act} {w : World} (ds : List (Nat × Nat)) (hB : makersB md ops listed (ds.map (·.1)) a.tmps.size = true) (hds : dsB ops ds = true) (hn : (ds.map (·.1)).Nodup)
    (φ : Nat → Value → World → Prop) (ow : Nat → Value → Option Nat) (hφ : ∀ i v x y, φ i v x → Tch [] x y → φ i v y) (hS : ∀ x y, S x → Tch [] x y → S y) (hSw : S w)
    (hstep : ∀ p ∈ ds, ∀ o : Oper, ops[p.1]? = some o → ∀ (a' : Act) (w' : World), Tch [] w w' → (∀ k, k ∉ ds.map (·.2) → a'.tmps.getD k undef = a.tmps.getD k undef) → (∀ q ∈ ds, q.1 ∈ depsOf md o → φ q.1 (a'.tmps.getD q.2 undef) w') →
      ∀ K : Act → World → Prop, (∀ v w'', Tch [] w' w'' → φ p.1 v w'' → (∀ k, ow p.1 v = some k → w'.heap.size ≤ k ∧ k < w''.heap.size) → K (a'.put o.dst v) w'') → o.wp P a' w' K Q)
    (hend : ∀ vs w', Made w w' φ ow vs (ds.map (·.1)) → S w' → wpAnyH P md ops Q S fuel (setL listed (ds.map (·.1))) (putD ds vs a) w') :
    wpAnyH P md ops Q S (ds.length + fuel) listed a w := by
  have hd : ∀ p ∈ ds, dstO ops p.1 = p.2 := fun p hp => by
    unfold dsB at hds
    rw [List.all_eq_true] at hds
    simpa using hds p hp
  have := wpAnyH_makers (P := P) (Q := Q) (fuel := fuel) (ds.map (·.1)) hB hn φ ow hφ hS hSw (fun i hi o ho a' w' t hs hdep K hK => by
    obtain ⟨p, hp, rfl⟩ := List.mem_map.1 hi
    refine hstep p hp o ho a' w' t (fun k hk => hs k (fun j hj e => ?_)) (fun q hq hqd => ?_) K hK
    · obtain ⟨q, hq, rfl⟩ := List.mem_map.1 hj
      rw [hd q hq] at e
      exact hk (List.mem_map.2 ⟨q, hq, e⟩)
    · have := hdep q.1 (List.mem_map.2 ⟨q, hq, rfl⟩) hqd
      rw [hd q hq] at this
      exact this) (fun vs w' hM hSx => by rw [← putD_putL vs ds hd]; exact hend vs w' hM hSx)
  rw [List.length_map] at this
  exact this
/-- A call of a known function, in whatever frame. -/
theorem wp_call_ret {o : Oper} {a : Act} {w : World} {K : Act → World → Prop} (g : FuncId) (as : Array Operand) (ts : Array TypeId) (ho : o.op = .call { callee := .value (.func g), args := as, argTypes := ts }) (args : Array Value) (hargs : as.map a.eval = args) (hF : ∀ w, (callFunc g args).run P w = .ok (.enter g args) w)
    {R : Ending → World → Prop} (hc : Calls P g args w R) (h : ∀ e w', R e w' → ∃ v, e = .returned v ∧ K (a.put o.dst v) w') : o.wp P a w K Q := by
  unfold Oper.wp execOp
  have he : a.eval (.func g) = .func (.func g) #[] #[] := rfl
  simp only [ho, resolve, he, hargs, Deferred.ofValue, invoke, Sem.run_bind, Sem.run_pure, Result.andThen_ok]
  rw [show (#[] ++ args ++ #[] : Array Value) = args by simp, hF, Oper.upon_enter]
  refine hc.mono fun e w' hr => ?_
  obtain ⟨v, rfl, hk⟩ := h e w' hr
  exact hk
theorem wp_make_run {o : Oper} {a : Act} {w : World} {K : Act → World → Prop} (t : TypeId) (l c : Operand) (ho : o.op = .makeSlice t l c) (vl vc : Value) (hl : a.eval l = vl) (hc : a.eval c = vc) (v : Value) (w' : World) (h0 : (Instr.makeSlice t vl vc).run P w = .ok v w') (h : K (a.put o.dst v) w') : o.wp P a w K Q := by
  unfold Oper.wp execOp
  simp only [ho, hl, hc, Sem.run_bind, Sem.run_pure, Result.andThen_ok, h0]
  exact h
theorem wp_buildSlice_run {o : Oper} {a : Act} {w : World} {K : Act → World → Prop} (t : TypeId) (n : Nat) (parts : Array (Nat × Operand)) (ho : o.op = .buildSlice t n parts) (ps : Array (Nat × Value)) (hp : parts.map (fun (i, x) => (i, a.eval x)) = ps) (v : Value) (w' : World) (h0 : (Instr.buildSlice t n ps).run P w = .ok v w') (h : K (a.put o.dst v) w') : o.wp P a w K Q := by
  unfold Oper.wp execOp
  simp only [ho, hp, Sem.run_bind, Sem.run_pure, Result.andThen_ok, h0]
  exact h
end
end Go.Tcn
