/-
  CONTRACTS: readList, Read of the reference of chapter 4: bytes as an applet. Conditions: utf8's tables as they are laid; sizes of 64 bits.
-/
import Derived.Test.YtapephelfijcbaaGreatDoorHRfr
import Derived.Test.YtapephelfijcbaaGreatDoorHImw
namespace Go.Tcn
open Go.RowKit
set_option linter.unusedVariables false
set_option linter.unusedSimpArgs false
/-- A plain reader's state: its bytes lie in none of L. -/
structure RSt (TR : TypeId) (w : World) (q : Nat) (L : List Nat) (st : St) : Prop where
  ex : ∃ l k, Rd w TR q L l k ∧ l.length ≤ 8192 ∧ (st = .ok l ∧ k = false ∨ st = .error 7 ∧ k = true)
theorem RSt.tch {TR : TypeId} {w w' : World} {q : Nat} {L L' : List Nat} {st : St} (h : RSt TR w q L st) (t : Tch L' w w') (hq : q ∉ L') (hl : ∀ i ∈ L', i < w.heap.size → i ∈ L) : RSt TR w' q L st := by
  obtain ⟨l, k, h1, h2, h3⟩ := h.ex
  exact ⟨l, k, h1.tch t hq hl, h2, h3⟩
theorem RSt.mono {TR : TypeId} {w : World} {q : Nat} {L L' : List Nat} {st : St} (h : RSt TR w q L st) (hl : ∀ i ∈ L', i < w.heap.size → i ∈ L) : RSt TR w q L' st := by
  obtain ⟨l, k, h1, h2, h3⟩ := h.ex
  exact ⟨l, k, h1.mono hl, h2, h3⟩
theorem RSt.lt {TR : TypeId} {w : World} {q : Nat} {L : List Nat} {st : St} (h : RSt TR w q L st) : q < w.heap.size := by
  obtain ⟨l, k, h1, h2, h3⟩ := h.ex
  exact h1.lt
theorem RSt.lackC {TR : TypeId} {w : World} {q : Nat} {L : List Nat} {st : St} (h : RSt TR w q L st) : w.cell? ⟨q, 1, none⟩ = some (.bool (errB st)) := by
  obtain ⟨l, k, h1, h2, h3⟩ := h.ex
  rw [h1.lackCell]
  rcases h3 with ⟨rfl, rfl⟩ | ⟨rfl, rfl⟩ <;> rfl
theorem RSt.e7 {TR : TypeId} {w : World} {q : Nat} {L : List Nat} {e : Int} (h : RSt TR w q L (.error e)) : e = 7 := by
  obtain ⟨l, k, h1, h2, h3⟩ := h.ex
  rcases h3 with ⟨h3, _⟩ | ⟨h3, _⟩
  · cases h3
  · simpa using h3
theorem RSt.restC {TR : TypeId} {w : World} {q : Nat} {L : List Nat} {l : List Int} (h : RSt TR w q L (.ok l)) : ∃ ao cap, w.cell? ⟨q, 0, none⟩ = some (.slice ao l.length cap) := by
  obtain ⟨l', k, h1, h2, h3⟩ := h.ex
  have e : l = l' := by
    rcases h3 with ⟨h3, _⟩ | ⟨h3, _⟩
    · simpa using h3
    · cases h3
  subst e
  obtain ⟨ao, cap, hv, _⟩ := h1.ex
  exact ⟨ao, cap, (cells_two hv).1⟩
theorem rst_in {st : St} {l : List Int} {k : Bool} (h : st = .ok l ∧ k = false ∨ st = .error 7 ∧ k = true) : st = .ok l ∧ k = false ∧ (0 : Int) = 0 ∨ ∃ e, st = .error e ∧ e ≠ 0 ∧ effE 0 k = e := by
  rcases h with ⟨a, b⟩ | ⟨a, b⟩
  · exact .inl ⟨a, b, rfl⟩
  · exact .inr ⟨7, a, by decide, by rw [b]; rfl⟩
theorem rst_out {st : St} {l : List Int} {k : Bool} (h : st = .ok l ∧ k = false ∧ (0 : Int) = 0 ∨ ∃ e, st = .error e ∧ e ≠ 0 ∧ effE 0 k = e) : st = .ok l ∧ k = false ∨ st = .error 7 ∧ k = true := by
  rcases h with ⟨a, b, _⟩ | ⟨e, a, he, hf⟩
  · exact .inl ⟨a, b⟩
  · cases k
    · exact absurd hf.symm he
    · have e7 : e = 7 := hf.symm
      subst e7
      exact .inr ⟨a, rfl⟩
/-- A step that turns, of what is old, no more. -/
theorem Tch.more {L L' : List Nat} {a b c : World} (h : Tch L a b) (k : Tch L' b c) (hh : ∀ i ∈ L', i ∈ L ∨ a.heap.size ≤ i) : Tch L a c :=
  h.trans k (fun _ _ x => x) (fun i hi hx => (hh i hx).resolve_right (by omega))
theorem RSt.push {TR : TypeId} {w w' : World} {q g row row' : Nat} {L : List Nat} {st : St} (h : RSt TR w q (row :: g :: L) st) (o2 : row' = row ∨ w.heap.size ≤ row') (o3 : Tch [g, row] w w') (h1 : q ≠ g) (h2 : q ≠ row) : RSt TR w' q (row' :: g :: L) st := by
  have k1 := h.mono (L' := row' :: row :: g :: L) (fun i hi hlt => by
    rcases List.mem_cons.1 hi with hi | hi
    · rcases o2 with o2 | o2
      · rw [hi, o2]; simp
      · omega
    · exact hi)
  have k2 := k1.tch o3 (by simp; omega) (fun i hi _ => by simp at hi ⊢; rcases hi with hi | hi <;> simp [hi])
  exact k2.mono (fun i hi _ => by simp at hi ⊢; rcases hi with hi | hi | hi <;> simp [hi])
theorem OL.lts {α : Type} {w : World} {T E : TypeId} {sz g c row : Nat} {cs : Array Value} {M : List Nat} {R : World → List Nat → List Value → α → Prop} {xs : List α} (h : OL w T E sz g c row cs M R xs) : g < w.heap.size ∧ row < w.heap.size := by
  obtain ⟨css, h1, h2, h3, h4⟩ := h.ex
  exact ⟨h3.lt, h3.row_lt⟩
/-- One more in a box of things. -/
theorem OL.push {α : Type} {w w0 w1 : World} {T E : TypeId} {sz g c row : Nat} {cs : Array Value} {M : List Nat} {R : World → List Nat → List Value → α → Prop} {xs : List α} {x : α} {news : List Value} {css : List (List Value)} {v0 v1 : Value}
    (htch : ∀ (w w' : World) (L L' : List Nat) d x, R w L d x → Tch L' w w' → (∀ i ∈ L', i < w.heap.size → i ∈ L) → R w' L d x) (hmono : ∀ (w : World) (L L' : List Nat) d x, R w L d x → (∀ i ∈ L', i < w.heap.size → i ∈ L) → R w L' d x)
    (hcl : css.length = xs.length) (hcz : ∀ d ∈ css, d.length = sz) (hel : ∀ (k : Nat) d x, css[k]? = some d → xs[k]? = some x → R w (row :: M) d x)
    (e1 : w.heap[g]? = some (.cells (cs.setIfInBounds c v0) T (0, 0))) (hne : v0.ownBlock ≠ some g) (hrow : row = v0.ownBlock.getD g)
    (h0 : Tch [] w w0) (hgrow : w0.grownBy w1 v0.ownBlock) (hown : w1.ownsRow 0 E sz v1 (xs.length + 1) (css.flatten ++ news)) (hat : v1.ownBlock = v0.ownBlock ∨ v1.ownBlock = some w0.heap.size)
    (hnl : news.length = sz) (hx : R w (row :: M) news x) (hgM : g ∈ M) :
    ∃ row', OL (w1.setCell ⟨g, c, none⟩ v1) T E sz g c row' cs M R (xs ++ [x]) ∧ (row' = row ∨ w.heap.size ≤ row') ∧ Tch [g, row] w (w1.setCell ⟨g, c, none⟩ v1) := by
  obtain ⟨row', o1, o2, o3⟩ := OB.grow (w := w) (c := c) (cs := cs) (xs := css.flatten) (news := news) e1 hne h0 hgrow (xs.length + 1) hown hat
  rw [← hrow] at o2 o3
  have wid : ∀ i ∈ row' :: row :: M, i < w.heap.size → i ∈ row :: M := fun i hi hlt => by
    rcases List.mem_cons.1 hi with hi | hi
    · rcases o2 with o2 | o2
      · rw [hi, o2]; simp
      · omega
    · exact hi
  have hin : ∀ i ∈ [g, row], i < w.heap.size → i ∈ row' :: row :: M := fun i hi _ => by simp at hi ⊢; rcases hi with hi | hi <;> simp [hi, hgM]
  have nar : ∀ (W : World), ∀ i ∈ row' :: M, i < W.heap.size → i ∈ row' :: row :: M := fun W i hi _ => by simp at hi ⊢; rcases hi with hi | hi <;> simp [hi]
  have tr : ∀ d x, R w (row :: M) d x → R (w1.setCell ⟨g, c, none⟩ v1) (row' :: M) d x := fun d x r => hmono _ _ _ _ _ (htch _ _ _ _ _ _ (hmono _ _ _ _ _ r wid) o3 hin) (nar _)
  refine ⟨row', ⟨css ++ [news], by simp [hcl], ?_, ?_, ?_⟩, o2, o3⟩
  · intro d hd
    rcases List.mem_append.1 hd with hd | hd
    · exact hcz d hd
    · simp at hd; subst hd; exact hnl
  · have e2 : (css ++ [news]).flatten = css.flatten ++ news := by simp
    have en : (xs ++ [x]).length = xs.length + 1 := by simp
    rw [e2, en]; exact o1
  · intro k d y hkd hky
    by_cases hk : k < css.length
    · rw [List.getElem?_append_left hk] at hkd
      rw [List.getElem?_append_left (by omega)] at hky
      exact tr _ _ (hel k d y hkd hky)
    · have hk2 : k = css.length := by
        have := (List.getElem?_eq_some_iff.1 hkd).1
        simp at this; omega
      subst hk2
      rw [List.getElem?_append_right (Nat.le_refl _)] at hkd
      rw [List.getElem?_append_right (by omega), hcl] at hky
      simp at hkd hky
      subst hkd; subst hky
      exact tr _ _ hx
theorem wpList_load_agg_w {P : Program} {ops : Array Oper} {rest : List Oper} {o : Oper} {a : Act} {w : World} {Q : Exit → Act → World → Prop} (hw : Region.wanted o (yielded ops a.tmps) = true) (ty : TypeId) (x : Operand) (ho : o.op = .load ty x)
    (ad : Addr) (hx : a.eval x = .pointer (some ad)) (cs : Array Value) (d : TypeDesc) (hc : ∀ (j : Nat) u, cs.toList[j]? = some u → w.cell? (ad.add j) = some u)
    (hu : P.underlying ty = some d) (hd : (match d with | .struct _ | .array _ _ => true | _ => false) = true) (hi : (P.info? ty).map (·.size) = some cs.size)
    (h : wpList P ops Q rest (a.put o.dst (.agg cs)) w) : wpList P ops Q (o :: rest) a w :=
  BigFrame.wpList_want hw fun _ hK => wp_load_agg ty x ho ad hx cs d hc hu hd hi (hK _ _ h)
theorem Got.cnt {α : Type} {P : Par α} {st s1 s2 : St} {n : Int} {xs : List α} (g : Got u8P st n s1) (h : Got (repP P n.toNat) s1 xs s2) : Got (cntP P) st xs s2 := by
  unfold cntP
  exact Got.bind g h
theorem Got.one {α : Type} {P : Par α} {st s1 s2 : St} {k : Nat} {xs : List α} {x : α} (h : Got (repP P k) st xs s1) (g : Got P s1 x s2) : Got (repP P (k + 1)) st (xs ++ [x]) s2 := by
  rw [show repP P (k + 1) = (repP P k).bind (fun xs => P.bind fun x => .ret (xs ++ [x])) from rfl]
  exact Got.bind h (Got.bind g (Got.ret _ _))
theorem Got.mkImp {st s1 s2 s3 s4 : St} {nm : List UInt8} {e r : Int} {ps : List Int} (a : Got strP st nm s1) (b : Got u8P s1 e s2) (c : Got (cntP u8P) s2 ps s3) (d : Got u8P s3 r s4) : Got impP st ⟨nm, e, ps, r⟩ s4 := by
  unfold impP
  exact Got.bind a (Got.bind b (Got.bind c (Got.bind d (Got.ret _ _))))
theorem Got.mkMth {st s1 s2 s3 s4 : St} {r : Int} {ps ls : List Int} {c : List Ins} (a : Got (cntP u8P) st ps s1) (b : Got u8P s1 r s2) (d : Got (cntP u8P) s2 ls s3) (e : Got (cntP insP) s3 c s4) : Got mthP st ⟨ps, r, ls, c⟩ s4 := by
  unfold mthP
  exact Got.bind a (Got.bind b (Got.bind d (Got.bind e (Got.ret _ _))))
theorem Got.mkImg {st s1 s2 s3 s4 s5 : St} {nm : List UInt8} {fs ex : List Int} {is : List Imp} {ms : List Mth} (a : Got strP st nm s1) (b : Got (cntP u8P) s1 fs s2) (c : Got (cntP impP) s2 is s3) (d : Got (cntP mthP) s3 ms s4) (e : Got (cntP u8P) s4 ex s5) : Got imgP st ⟨nm, fs, is, ms, ex⟩ s5 := by
  unfold imgP
  exact Got.bind a (Got.bind b (Got.bind c (Got.bind d (Got.bind e (Got.ret _ _)))))
def RIns (w : World) (L : List Nat) (d : List Value) (x : Ins) : Prop := d = x.cells
theorem code_of_RL {W : World} {L L' : List Nat} {v : Value} {xs : List Ins} (h : RL W L 3 (RIns W L') v xs) : RCode W L v xs := by
  obtain ⟨css, h1, h2, h3, h4⟩ := h.ex
  obtain rfl : css = xs.map Ins.cells := by
    apply List.ext_getElem (by simp [h1])
    intro i a b
    simp only [List.getElem_map]
    exact h4 i css[i] (xs[i]'(by simpa using b)) (by simp [a]) (by simp)
  exact h3
end Go.Tcn
namespace Go.Proofs.YtapephelfijcbaaGreatDoor
open Go.RowKit Go.Tcn
set_option linter.unusedVariables false
set_option linter.unusedSimpArgs false
theorem rr_U8 (w : World) (q : Nat) (L : List Nat) (st : St) (h : RSt 89 w q L st) :
    Calls Tryz.prog 60 #[.pointer (some ⟨q, 0, none⟩)] w fun e w' => ∃ v, e = .returned (.int .i64 v) ∧ 0 ≤ v ∧ v ≤ 255 ∧ ∃ st', Got u8P st v st' ∧ RSt 89 w' q L st' ∧ Tch [q] w w' := by
  obtain ⟨l, k, h1, h2, h3⟩ := h.ex
  obtain ⟨g1, g2, st', g3, g4⟩ := u8_got (wr := 0) (rst_in h3) h1.byt
  refine (ref_RU8 w q L l k h1 (by omega)).mono ?_
  rintro e w' ⟨rfl, hr, t⟩
  have := rdRest_le' l k 1
  exact ⟨_, rfl, g1, g2, st', g3, ⟨_, _, hr, by omega, rst_out g4⟩, t⟩
theorem rr_Short (w : World) (q : Nat) (L : List Nat) (st : St) (h : RSt 89 w q L st) :
    Calls Tryz.prog 58 #[.pointer (some ⟨q, 0, none⟩)] w fun e w' => ∃ ao cap bs, e = .returned (.slice ao bs.length cap) ∧ Src w' [] (.slice ao bs.length cap) bs.length (bys bs) ∧ ∃ st', Got strP st (unnums bs) st' ∧ RSt 89 w' q L st' ∧ Tch [q] w w' := by
  obtain ⟨l, k, h1, h2, h3⟩ := h.ex
  obtain ⟨st', g3, g4⟩ := short_got (wr := 0) (rst_in h3) h1.byt
  refine (ref_RShort w q L l k h1 (by omega)).mono ?_
  rintro e w' ⟨ao, cap, rfl, ho, hn, hr, t⟩
  have := shRest_le l k
  exact ⟨ao, cap, shOut l k, rfl, src_of_owns ho [] (by simp), st', g3, ⟨_, _, hr, by omega, rst_out g4⟩, t⟩
theorem rr_code (w : World) (q : Nat) (L : List Nat) (l : List Int) (h : RSt 89 w q L (.ok l)) :
    Calls Tryz.prog 61 #[.pointer (some ⟨q, 0, none⟩)] w fun e w' => ∃ (x : Ins) (er : Int), e = .returned (.tuple #[.agg #[.int .i64 x.op, .int .i64 x.a, .int .i64 x.b], .int .i64 er]) ∧ (er = 0 → ∃ st', Got insP (.ok l) x st' ∧ RSt 89 w' q L st') ∧ (er ≠ 0 → Got insP (.ok l) x (.error er)) ∧ Tch [q] w w' := by
  obtain ⟨l', k, h1, h2, h3⟩ := h.ex
  have h6 : l = l' ∧ k = false := by
    rcases h3 with ⟨e, hk⟩ | ⟨e, _⟩
    · simp only [Except.ok.injEq] at e; exact ⟨e, hk⟩
    · cases e
  obtain ⟨rfl, rfl⟩ := h6
  refine (ref_Read w q L l false h1 (by omega) _ rfl).mono ?_
  rintro e w' ⟨rfl, hr, t⟩
  have := readI_le l
  refine ⟨⟨(readI l false).1.1, (readI l false).1.2.1, (readI l false).1.2.2⟩, _, rfl, fun he => ⟨.ok (readI l false).2.2.1, ?_, ⟨_, _, hr, by omega, .inl ⟨rfl, readI_lack l he⟩⟩⟩, fun he => ?_, t⟩
  · simp only [Got]
    unfold insP
    rw [if_pos he]
    exact ⟨rfl, rfl⟩
  · simp only [Got]
    unfold insP
    rw [if_neg he]
set_option maxRecDepth 100000 in
set_option maxHeartbeats 4000000 in
theorem rf_readList (w : World) (q : Nat) (L : List Nat) (st : St) (h : RSt 89 w q L st) :
    Calls Tryz.prog 59 #[.pointer (some ⟨q, 0, none⟩)] w fun e w' => ∃ ao cap xs, e = .returned (.slice ao xs.length cap) ∧ (∀ M : List Nat, (∀ i ∈ M, i < w.heap.size) → RInts w' M (.slice ao xs.length cap) xs) ∧ ∃ st', Got (cntP u8P) st xs st' ∧ xs.length ≤ 255 ∧ RSt 89 w' q L st' ∧ Tch [q] w w' := by
  obtain ⟨i0, hi0, hz00, hz01, hz02⟩ := info_parts info_intq
  go_enter Tryz.func59, Tryz.ntmps59
  go_wp2_with fail
  refine (rr_U8 w q L st h).mono ?_
  rintro e w1 ⟨n, rfl, hn0, hn1, st1, g1, h1, t1⟩
  have hq1 : q < w1.heap.size := h1.lt
  have hws := t1.size
  have hfin : ∀ (W : World) (ao : Option Addr) (cap : Nat) (xs : List Int), W.ownsRow 0 3 1 (.slice ao xs.length cap) xs.length (ints xs) → (∀ k, (Value.slice ao xs.length cap).ownBlock = some k → w1.heap.size ≤ k) → ∀ M : List Nat, (∀ i ∈ M, i < w.heap.size) → RInts W M (.slice ao xs.length cap) xs := fun W ao cap xs ho hb M hM => src_of_owns ho M (fun k hk hx => by have := hb k hk; have := hM k hx; omega)
  go_wp2_with fail
  go_loopw [3, 4] (fun v c wz => ∃ (j : Nat) (xs : List Int) (st2 : St) (ao : Option Addr) (cap : Nat) (R : List Nat), j ≤ n.toNat ∧ c = .int .i64 (n - j) ∧ xs.length = j ∧ v = .slice ao j cap ∧ Got (repP u8P j) st1 xs st2 ∧ RSt 89 wz q (R ++ L) st2 ∧ wz.ownsRow 0 3 1 (.slice ao j cap) j (ints xs) ∧ (∀ k, (Value.slice ao j cap).ownBlock = some k → w1.heap.size ≤ k ∧ k ∈ R) ∧ (∀ i ∈ R, w1.heap.size ≤ i) ∧ Tch [q] w1 wz) (fun _ c _ => (intOf c).toNat)
  case atStart => exact ⟨0, [], st1, none, 0, [], by omega, by simp, rfl, rfl, Got.ret _ _, h1, World.ownsRow_nil _ _ _ _, by simp [Value.ownBlock], by simp, Tch.refl _ _⟩
  case round =>
    obtain ⟨j, xs, st2, ao, cap, R, hj, rfl, hxl, rfl, g2, h2, ho, hb, hR, t2⟩ := hrel
    have hqr := h2.lt
    by_cases hjn : j < n.toNat
    · have hd : decide ((0 : Int) < n - (j : Int)) = true := decide_eq_true (by omega)
      cases st2 with
      | error e =>
        have hlk : wr.cell? ⟨q, 1, none⟩ = some (.bool true) := h2.lackC
        have HG := Lib.hid (Got.rep g2 hj)
        go_wp2_with fail
        go_ret
        subst hxl
        exact ⟨ao, cap, xs, rfl, hfin _ _ _ _ ho (fun k hk => (hb k hk).1), .error e, Got.bind g1 HG.out, by omega, h2.mono (fun i hi _ => List.mem_append_right _ hi), t1.trans t2 (fun _ _ x => x) (fun _ _ x => x)⟩
      | ok l =>
        have hlk : wr.cell? ⟨q, 1, none⟩ = some (.bool false) := h2.lackC
        have hw : wrap64 (n - (j : Int) - 1) = n - (j : Int) - 1 := IntWalk.wrap64_in _ (by omega)
        have hbnd : j + 1 ≤ 9223372036854775807 ∧ (j + 1) * 8 ≤ 140737488355328 := by omega
        go_wp2_with fail
        refine (rr_U8 wr q _ _ h2).mono ?_
        rintro e w3 ⟨v, rfl, _, _, st3, g3, h3, t3⟩
        have ho3 := ownsRow_tch ho t3 (fun k hk hx => by have := (hb k hk).1; simp at hx; omega)
        obtain ⟨Z, hZ⟩ : ∃ Z, Z = w3.alloc (.cells #[.int .i64 v] 3) := ⟨_, rfl⟩
        have tZ : Tch [] w3 Z := by rw [hZ]; exact (Tch.refl [] w3).alloc _
        have zZ := tZ.size
        go_wp2_with (at_builtin; refine wpList_append_any _ rfl (.tmp 18) (.tmp 21) 23 rfl 3 i0 (.int .i64 0) 1 8 Tryz.underlying23 hi0 hz00 hz01 hz02 rfl (by decide) (.slice ao j cap) j (ints xs) rfl (ho3.alloc _) [] _ 1 _ rfl (src_new _ _ [] _ _ 1 1 (Tch.refl [] _) (by simp)) rfl (by intro u hu; simp at hu; subst hu; rfl) hbnd ?_; rw [← hZ]; intro ao5 cap5 w5 hown5 hgrow5 hat5)
        have t45 : Tch R w3 w5 := Tch.grown (tZ.nil) hgrow5 (fun k hk => .inl (hb k hk).2)
        have h5 : RSt 89 w5 q ((Z.heap.size :: R) ++ L) st3 := RSt.tch (h3.mono (L' := (Z.heap.size :: R) ++ L) (fun i hi hlt => by
          rcases List.mem_cons.1 hi with hi | hi
          · omega
          · exact hi)) t45 (fun hx => by have := hR q hx; omega) (fun i hi _ => List.mem_append_left _ (List.mem_cons_of_mem _ hi))
        have z3 := t3.size
        have z2 := t2.size
        go_roundw
        case rel =>
          refine ⟨j + 1, xs ++ [v], st3, ao5, cap5, Z.heap.size :: R, by omega, by go_num, by simp; omega, rfl, Got.bind g2 (Got.bind g3 (Got.ret _ _)), h5, by rw [ints_append]; exact hown5, fun k hk => ?_, fun i hi => ?_, ?_⟩
          · rcases hat5 with e | e
            · rw [e] at hk
              exact ⟨(hb k hk).1, List.mem_cons_of_mem _ (hb k hk).2⟩
            · rw [e] at hk
              simp only [Option.some.injEq] at hk
              subst hk
              exact ⟨by omega, by simp⟩
          · rcases List.mem_cons.1 hi with hi | hi
            · omega
            · exact hR i hi
          · exact (t2.trans t3 (fun _ _ x => x) (fun _ _ x => x)).more t45 (fun i hi => .inr (hR i hi))
        case measure => simp [intOf]; omega
    · have hd : decide ((0 : Int) < n - (j : Int)) = false := decide_eq_false (by omega)
      have hjn2 : j = n.toNat := by omega
      have HG := Lib.hid (show Got (repP u8P n.toNat) st1 xs st2 from hjn2 ▸ g2)
      clear hjn2
      go_wp2_with fail
      go_ret
      subst hxl
      exact ⟨ao, cap, xs, rfl, hfin _ _ _ _ ho (fun k hk => (hb k hk).1), st2, Got.bind g1 HG.out, by omega, h2.mono (fun i hi _ => List.mem_append_right _ hi), t1.trans t2 (fun _ _ x => x) (fun _ _ x => x)⟩
set_option maxRecDepth 100000 in
set_option maxHeartbeats 16000000 in
theorem rf_Read (w0 : World) (x : Value) (b0 : List Int) (L' : List Nat) (hx : Src w0 L' x b0.length (bys b0)) (hbt : Byt b0) (hbl : b0.length ≤ 140737488355328) (hV : ∀ nm w', nm.length ≤ 16 → Tch [] w0 w' → Calls Tryz.prog 77 #[.string ⟨nm.toArray⟩] w' fun e w'' => e = .returned (.bool (Lib.validD nm)) ∧ Tch [] w' w'') :
    Calls Tryz.prog 15 #[x] w0 fun e w' => ∃ vf vi vm ve, e = .returned (.tuple #[.agg #[.string ⟨(readImg b0).1.name.toArray⟩, vf, vi, vm, ve], .int .i64 (readImg b0).2]) ∧ RInts w' [] vf (readImg b0).1.fields ∧ RImps w' [] vi (readImg b0).1.imports ∧ RMths w' [] vm (readImg b0).1.methods ∧ RInts w' [] ve (readImg b0).1.exports ∧ ImgZ (readImg b0).1 ∧ Tch [] w0 w' := by
  obtain ⟨i1, hi1, hz10, hz11, hz12⟩ := info_parts info_impq
  obtain ⟨i2, hi2, hz20, hz21, hz22⟩ := info_parts info_mthq
  obtain ⟨i3, hi3, hz30, hz31, hz32⟩ := info_parts info_insU
  have hno : ∀ (W : World), RInts W [] (.slice none 0 0) noImg.fields ∧ RImps W [] (.slice none 0 0) noImg.imports ∧ RMths W [] (.slice none 0 0) noImg.methods ∧ RInts W [] (.slice none 0 0) noImg.exports ∧ ImgZ noImg := fun W =>
    ⟨⟨.inl ⟨rfl, rfl, rfl⟩⟩, ⟨[], rfl, by simp, ⟨.inl ⟨rfl, rfl, rfl⟩⟩, by simp⟩, ⟨[], rfl, by simp, ⟨.inl ⟨rfl, rfl, rfl⟩⟩, by simp⟩, ⟨.inl ⟨rfl, rfl, rfl⟩⟩, by simp [ImgZ, noImg]⟩
  obtain ⟨ax, cx, rfl⟩ := Src.form hx
  obtain ⟨V, hVd⟩ : ∃ V, V = (w0.alloc (.cells #[.string ⟨#[]⟩, .slice none 0 0, .slice none 0 0, .slice none 0 0, .slice none 0 0] 27)).alloc (.cells #[.string ⟨#[]⟩, .slice none 0 0, .slice none 0 0, .slice none 0 0, .slice none 0 0] 27) := ⟨_, rfl⟩
  have tV : Tch [] w0 V := by rw [hVd]; exact ((Tch.refl [] w0).alloc _).alloc _
  have hR : V.heap[w0.heap.size]? = some (.cells #[.string ⟨#[]⟩, .slice none 0 0, .slice none 0 0, .slice none 0 0, .slice none 0 0] 27 (0, 0)) := by
    have h1 := heap_alloc_new w0 (.cells #[.string ⟨#[]⟩, .slice none 0 0, .slice none 0 0, .slice none 0 0, .slice none 0 0] 27)
    have h2 := ((Tch.refl [] (w0.alloc (.cells #[.string ⟨#[]⟩, .slice none 0 0, .slice none 0 0, .slice none 0 0, .slice none 0 0] 27))).alloc (.cells #[.string ⟨#[]⟩, .slice none 0 0, .slice none 0 0, .slice none 0 0, .slice none 0 0] 27)).block w0.heap.size (heap_lt h1) (by simp)
    rw [hVd, h2]; exact h1
  have hN : V.heap[(w0.heap.size + 1)]? = some (.cells #[.string ⟨#[]⟩, .slice none 0 0, .slice none 0 0, .slice none 0 0, .slice none 0 0] 27 (0, 0)) := by
    have e : w0.heap.size + 1 = (w0.alloc (.cells #[.string ⟨#[]⟩, .slice none 0 0, .slice none 0 0, .slice none 0 0, .slice none 0 0] 27)).heap.size := by simp
    rw [hVd, e]; exact heap_alloc_new _ _
  have hw0 : w0.heap.size ≤ w0.heap.size := Nat.le_refl _
  by_cases h8 : 8192 < b0.length
  · have HRI := Lib.hid (show readImg b0 = (noImg, 6) by unfold readImg; rw [if_pos h8])
    have d8 : decide ((8192 : Int) < (b0.length : Int)) = true := decide_eq_true (by omega)
    go_enter Tryz.func15, Tryz.ntmps15
    go_upto_region 2 with fail
    rw [← hVd]
    clear hVd
    obtain ⟨a0, a1, a2, a3, a4, v0, v1, v2, v3, v4⟩ := F5.of (hR)
    have hNc := cells_of_heap (hN)
    go_wp2_with (first | (refine wpList_load_agg rfl 27 (.tmp 4) rfl ⟨(w0.heap.size + 1), 0, none⟩ rfl #[.string ⟨#[]⟩, .slice none 0 0, .slice none 0 0, .slice none 0 0, .slice none 0 0] _ hNc Tryz.underlying27 rfl (by kernel_rfl) ?_) | fail)
    refine bodyPost_ret (v := .tuple #[.agg #[.string ⟨#[]⟩, .slice none 0 0, .slice none 0 0, .slice none 0 0, .slice none 0 0], .int .i64 6]) (by simp [results, Tryz.results15, go_sem, a0, a1, a2, a3, a4, v0, v1, v2, v3, v4]) rfl ?_
    rw [HRI.out]
    obtain ⟨n1, n2, n3, n4, n5⟩ := hno ((((((V.setCell ⟨w0.heap.size, 0, none⟩ (.string ⟨#[]⟩)).setCell ⟨w0.heap.size, 1, none⟩ (.slice none 0 0)).setCell ⟨w0.heap.size, 2, none⟩ (.slice none 0 0)).setCell ⟨w0.heap.size, 3, none⟩ (.slice none 0 0)).setCell ⟨w0.heap.size, 4, none⟩ (.slice none 0 0)))
    exact ⟨_, _, _, _, rfl, n1, n2, n3, n4, n5, (((((tV.setCell (.inr hw0) _).setCell (.inr hw0) _).setCell (.inr hw0) _).setCell (.inr hw0) _).setCell (.inr hw0) _)⟩
  have d8 : decide ((8192 : Int) < (b0.length : Int)) = false := decide_eq_false (by omega)
  obtain ⟨q, hq⟩ : ∃ q, q = V.heap.size := ⟨_, rfl⟩
  obtain ⟨w, hwd⟩ : ∃ w, w = V.alloc (.cells #[.slice ax b0.length cx, .bool false] 89) := ⟨_, rfl⟩
  have tw1 : Tch [] V w := by rw [hwd]; exact (Tch.refl [] V).alloc _
  have hrq : w0.heap.size < q ∧ (w0.heap.size + 1) < q := by rw [hq]; exact ⟨heap_lt hR, heap_lt hN⟩
  have Rw : Rd w 89 q [] b0 false := by
    refine ⟨⟨ax, cx, ?_, ?_⟩, hbt⟩
    · rw [hwd, hq]; exact heap_alloc_new V _
    · exact Src.tch (Src.mono hx (L' := [q]) (fun i hi hlt => by simp at hi; omega)) (tV.then tw1) (by simp)
  have hRw : w.heap[w0.heap.size]? = some (.cells #[.string ⟨#[]⟩, .slice none 0 0, .slice none 0 0, .slice none 0 0, .slice none 0 0] 27 (0, 0)) := (tw1.block w0.heap.size (heap_lt hR) (by simp)).trans hR
  have hNw : w.heap[(w0.heap.size + 1)]? = some (.cells #[.string ⟨#[]⟩, .slice none 0 0, .slice none 0 0, .slice none 0 0, .slice none 0 0] 27 (0, 0)) := (tw1.block (w0.heap.size + 1) (heap_lt hN) (by simp)).trans hN
  have tw := tV.then tw1
  go_enter Tryz.func15, Tryz.ntmps15
  go_upto_region 2 with fail
  rw [← hVd]
  clear hVd
  go_upto_region 5 with fail
  rw [← hwd, ← hq]
  clear hwd hR hN tw1 hq
  have hout := rdOut_five b0
  go_wp2_with fail
  refine (ref_RRaw w q _ b0 false Rw 5 (by omega) hbl).mono ?_
  rintro e y ⟨ao, cap, rfl, ho, hn, Ry, ty⟩
  have hRy : y.heap[w0.heap.size]? = some (.cells #[.string ⟨#[]⟩, .slice none 0 0, .slice none 0 0, .slice none 0 0, .slice none 0 0] 27 (0, 0)) := (ty.block w0.heap.size (heap_lt hRw) (by simp; omega)).trans hRw
  have hNy : y.heap[(w0.heap.size + 1)]? = some (.cells #[.string ⟨#[]⟩, .slice none 0 0, .slice none 0 0, .slice none 0 0, .slice none 0 0] 27 (0, 0)) := (ty.block (w0.heap.size + 1) (heap_lt hNw) (by simp; omega)).trans hNw
  have twy : Tch [] w0 y := tw.trans ty (by simp) (fun i hlt hi => by simp at hi; omega)
  have hSy : Src y [] (.slice ao (rdOut b0 false 5).length cap) (rdOut b0 false 5).length (bys (rdOut b0 false 5)) := src_of_owns ho [] (by simp)
  have hlk := Ry.lackCell
  clear hRw hNw Rw ty ho hn tw tV
  by_cases h5 : b0.length < 5
  · have HRI := Lib.hid (show readImg b0 = (noImg, 7) by unfold readImg; rw [if_neg h8, if_pos h5])
    have hok : rdOk b0 false 5 = false := by simp [rdOk]; omega
    rw [hok] at hlk
    obtain ⟨a0, a1, a2, a3, a4, v0, v1, v2, v3, v4⟩ := F5.of (hRy)
    have hNc := cells_of_heap (hNy)
    go_wp2_with (first | (refine wpList_load_agg rfl 27 (.tmp 4) rfl ⟨(w0.heap.size + 1), 0, none⟩ rfl #[.string ⟨#[]⟩, .slice none 0 0, .slice none 0 0, .slice none 0 0, .slice none 0 0] _ hNc Tryz.underlying27 rfl (by kernel_rfl) ?_) | fail)
    refine bodyPost_ret (v := .tuple #[.agg #[.string ⟨#[]⟩, .slice none 0 0, .slice none 0 0, .slice none 0 0, .slice none 0 0], .int .i64 7]) (by simp [results, Tryz.results15, go_sem, a0, a1, a2, a3, a4, v0, v1, v2, v3, v4]) rfl ?_
    rw [HRI.out]
    obtain ⟨n1, n2, n3, n4, n5⟩ := hno ((((((y.setCell ⟨w0.heap.size, 0, none⟩ (.string ⟨#[]⟩)).setCell ⟨w0.heap.size, 1, none⟩ (.slice none 0 0)).setCell ⟨w0.heap.size, 2, none⟩ (.slice none 0 0)).setCell ⟨w0.heap.size, 3, none⟩ (.slice none 0 0)).setCell ⟨w0.heap.size, 4, none⟩ (.slice none 0 0)))
    exact ⟨_, _, _, _, rfl, n1, n2, n3, n4, n5, (((((twy.setCell (.inr hw0) _).setCell (.inr hw0) _).setCell (.inr hw0) _).setCell (.inr hw0) _).setCell (.inr hw0) _)⟩
  have hok : rdOk b0 false 5 = true := by simp [rdOk]; omega
  obtain ⟨ho1, ho2⟩ := hout (by omega)
  rw [hok] at hlk Ry
  rw [ho2] at Ry
  clear hout
  generalize rdOut b0 false 5 = t5 at *
  have hcs := run_str (P := Tryz.prog) 30 5 9 Tryz.underlying30 Tryz.underlying5 Tryz.underlying9 hSy
  rw [strOfNums_unnums] at hcs
  have HO := Lib.hid ho1; clear ho1
  by_cases hhn : ¬ b0.take 5 = head5
  · have hh := hhn
    have HRI := Lib.hid (show readImg b0 = (noImg, 5) by unfold readImg; rw [if_neg h8, if_neg h5, if_pos hh])
    have htest : (unnums t5 == [84, 65, 67, 73, 1]) = false := by
      rw [HO.out]
      refine beq_eq_false_iff_ne.2 (fun e => hh ?_)
      rw [← nums_unnums (b0.take 5) (hbt.take 5), e]
      rfl
    obtain ⟨a0, a1, a2, a3, a4, v0, v1, v2, v3, v4⟩ := F5.of (hRy)
    have hNc := cells_of_heap (hNy)
    go_wp2_with (first | (refine wpList_load_agg rfl 27 (.tmp 4) rfl ⟨(w0.heap.size + 1), 0, none⟩ rfl #[.string ⟨#[]⟩, .slice none 0 0, .slice none 0 0, .slice none 0 0, .slice none 0 0] _ hNc Tryz.underlying27 rfl (by kernel_rfl) ?_) | fail)
    refine bodyPost_ret (v := .tuple #[.agg #[.string ⟨#[]⟩, .slice none 0 0, .slice none 0 0, .slice none 0 0, .slice none 0 0], .int .i64 5]) (by simp [results, Tryz.results15, go_sem, a0, a1, a2, a3, a4, v0, v1, v2, v3, v4]) rfl ?_
    rw [HRI.out]
    obtain ⟨n1, n2, n3, n4, n5⟩ := hno ((((((y.setCell ⟨w0.heap.size, 0, none⟩ (.string ⟨#[]⟩)).setCell ⟨w0.heap.size, 1, none⟩ (.slice none 0 0)).setCell ⟨w0.heap.size, 2, none⟩ (.slice none 0 0)).setCell ⟨w0.heap.size, 3, none⟩ (.slice none 0 0)).setCell ⟨w0.heap.size, 4, none⟩ (.slice none 0 0)))
    exact ⟨_, _, _, _, rfl, n1, n2, n3, n4, n5, (((((twy.setCell (.inr hw0) _).setCell (.inr hw0) _).setCell (.inr hw0) _).setCell (.inr hw0) _).setCell (.inr hw0) _)⟩
  have hh : b0.take 5 = head5 := by simpa using hhn
  have htest : (unnums t5 == [84, 65, 67, 73, 1]) = true := by rw [HO.out, hh]; rfl
  have HE := Lib.hid (show ∀ e, imgP (b0.drop 5) = .error e → readImg b0 = (noImg, e) from fun e he => by unfold readImg; rw [if_neg h8, if_neg h5, if_neg (by simpa using hh), he])
  have HK := Lib.hid (show ∀ i r, imgP (b0.drop 5) = .ok (i, r) → readImg b0 = if r ≠ [] ∨ imgB i = false then (noImg, 5) else (i, 0) from fun i r he => by unfold readImg; rw [if_neg h8, if_neg h5, if_neg (by simpa using hh), he])
  have S0 : RSt 89 y q [] (.ok (b0.drop 5)) := ⟨_, _, Ry, by simp; omega, .inl ⟨rfl, rfl⟩⟩
  have hqw : w0.heap.size ≤ q := by omega
  clear Ry hx hbl d8 hSy
  go_wp2_with fail
  refine (rr_Short y q [] _ S0).mono ?_
  rintro e w1 ⟨ao1, cp1, bs, rfl, s1, st1, g1, S1, t1⟩
  have hcs1 := run_str (P := Tryz.prog) 30 5 9 Tryz.underlying30 Tryz.underlying5 Tryz.underlying9 s1
  rw [strOfNums_unnums] at hcs1
  obtain ⟨nm, hnm⟩ : ∃ nm, nm = unnums bs := ⟨_, rfl⟩
  rw [← hnm] at hcs1 g1
  clear hnm
  obtain ⟨g, hg⟩ : ∃ g, g = w1.heap.size := ⟨_, rfl⟩
  obtain ⟨W1, hW1⟩ : ∃ W, W = w1.alloc (.cells #[.string ⟨nm.toArray⟩, .slice none 0 0, .slice none 0 0, .slice none 0 0, .slice none 0 0] 27) := ⟨_, rfl⟩
  have tW1 : Tch [] w1 W1 := by rw [hW1]; exact (Tch.refl [] w1).alloc _
  have hX1 : W1.heap[g]? = some (.cells #[.string ⟨nm.toArray⟩, .slice none 0 0, .slice none 0 0, .slice none 0 0, .slice none 0 0] 27 (0, 0)) := by rw [hW1, hg]; exact heap_alloc_new w1 _
  have hqg : q < g := by rw [hg]; exact S1.lt
  have hyg : y.heap.size ≤ g := by rw [hg]; exact t1.size
  have S1' : RSt 89 W1 q [g] st1 := (S1.mono (L' := [g]) (fun i hi hlt => by simp at hi; omega)).tch tW1 (by simp) (by simp)
  go_upto_region 11 with fail
  rw [← hW1, ← hg]
  clear hW1 hg hcs1 s1 hlk hcs htest S0 S1 HO
  go_wp2_with fail
  refine (rf_readList W1 q [g] st1 S1').mono ?_
  rintro e w2 ⟨af, cf, fs, rfl, I2, st2, g2, hfl, S2, t2⟩
  have I2' := I2 [q, g, w0.heap.size] (by have := heap_lt hX1; intro i hi; simp at hi; omega)
  have hX2 : w2.heap[g]? = some (.cells #[.string ⟨nm.toArray⟩, .slice none 0 0, .slice none 0 0, .slice none 0 0, .slice none 0 0] 27 (0, 0)) := (t2.block g (heap_lt hX1) (by simp; omega)).trans hX1
  obtain ⟨x0, x1, x2, x3, x4, u0, u1, u2, u3, u4⟩ := F5.of hX2
  obtain ⟨W2, hW2⟩ : ∃ W, W = w2.setCell ⟨g, 1, none⟩ (.slice af fs.length cf) := ⟨_, rfl⟩
  have tW2 : Tch [g] w2 W2 := by rw [hW2]; exact (Tch.refl [g] w2).setCell (.inl (by simp)) _
  have bW2 : W2.heap[g]? = some (.cells #[.string ⟨nm.toArray⟩, .slice af fs.length cf, .slice none 0 0, .slice none 0 0, .slice none 0 0] 27 (0, 0)) := by rw [hW2]; exact box_setc hX2 1 _
  have S2x : RSt 89 W2 q [g] st2 := S2.tch tW2 (by simp; omega) (by simp)
  have I3 := I2'.tch tW2 (by simp)
  go_upto_region 12 with fail
  rw [← hW2]
  clear hW2 x0 x1 x2 x3 x4 u0 u1 u2 u3 u4
  clear I2 I2' S1' S2 hX1 hX2
  go_wp2_with fail
  refine (rr_U8 W2 q [g] st2 S2x).mono ?_
  rintro e w3 ⟨n, rfl, ha0, ha1, st3, g3, S3, t3⟩
  have hX3 : w3.heap[g]? = some (.cells #[.string ⟨nm.toArray⟩, .slice af fs.length cf, .slice none 0 0, .slice none 0 0, .slice none 0 0] 27 (0, 0)) := (t3.block g (heap_lt bW2) (by simp; omega)).trans bW2
  have I4 := I3.tch t3 (by simp)
  have T3 : Tch [q] y w3 := (((t1.more tW1 (by simp)).more t2 (by simp)).more tW2 (by simp; omega)).more t3 (by simp)
  have O3 : OL w3 27 45 4 g 2 g #[.string ⟨nm.toArray⟩, .slice af fs.length cf, .slice none 0 0, .slice none 0 0, .slice none 0 0] [q, g, w0.heap.size] RImp [] := ⟨[], rfl, by simp, ⟨.slice none 0 0, hX3, World.ownsRow_nil _ _ _ _, rfl, by simp [Value.ownBlock]⟩, by simp⟩
  have S3' : RSt 89 w3 q [g, g] st3 := S3.mono (by simp)
  have hg3 := heap_lt hX3
  clear I3 S2x S3 bW2 hX3 t1 t2 t3 tW1 tW2
  go_upto_block 0 with fail
  go_cut [] (fun wz => ∃ (xs : List Imp) (st : St) (row : Nat), Got (cntP impP) st2 xs st ∧ xs.length ≤ 255 ∧ RSt 89 wz q [row, g] st ∧ OL wz 27 45 4 g 2 row #[.string ⟨nm.toArray⟩, .slice af fs.length cf, .slice none 0 0, .slice none 0 0, .slice none 0 0] [q, g, w0.heap.size] RImp xs ∧ (row = g ∨ w3.heap.size ≤ row) ∧ Tch [q, g] w3 wz)
  case first =>
    go_wp2_with fail
    go_loopw [8] (fun c wz => ∃ (k : Nat) (xs : List Imp) (st : St) (row : Nat), k ≤ n.toNat ∧ c = .int .i64 (n - k) ∧ xs.length = k ∧ Got (repP impP k) st3 xs st ∧ RSt 89 wz q [row, g] st ∧ OL wz 27 45 4 g 2 row #[.string ⟨nm.toArray⟩, .slice af fs.length cf, .slice none 0 0, .slice none 0 0, .slice none 0 0] [q, g, w0.heap.size] RImp xs ∧ (row = g ∨ w3.heap.size ≤ row) ∧ Tch [q, g] w3 wz) (fun c _ => (intOf c).toNat)
    case atStart => exact ⟨0, [], st3, g, by omega, by simp, rfl, Got.ret _ _, S3', O3, .inl rfl, Tch.refl _ _⟩
    case round =>
      obtain ⟨_, xs, st, row, hk, rfl, rfl, gx, S, O, hrw, t⟩ := hrel
      have hqr := S.lt
      by_cases hkn : xs.length < n.toNat
      · have hd : decide ((0 : Int) < n - (xs.length : Int)) = true := decide_eq_true (by omega)
        cases st with
        | error e =>
          have hlk : wr.cell? ⟨q, 1, none⟩ = some (.bool true) := S.lackC
          have GX := Lib.hid (Got.cnt g3 (Got.rep gx hk))
          clear gx
          go_wp2_with fail
          go_meet
          case rel => exact ⟨xs, .error e, row, GX.out, by omega, S, O, hrw, t⟩
        | ok l =>
          have hlk : wr.cell? ⟨q, 1, none⟩ = some (.bool false) := S.lackC
          have hw : wrap64 (n - (xs.length : Int) - 1) = n - (xs.length : Int) - 1 := IntWalk.wrap64_in _ (by omega)
          go_wp2_with fail
          refine (rr_Short wr q _ _ S).mono ?_
          rintro e y1 ⟨aoa, cpa, bsa, rfl, sa, sta, ga, Sa, ta⟩
          have hcsa := run_str (P := Tryz.prog) 30 5 9 Tryz.underlying30 Tryz.underlying5 Tryz.underlying9 sa
          rw [strOfNums_unnums] at hcsa
          obtain ⟨nx, hnx⟩ : ∃ nx, nx = unnums bsa := ⟨_, rfl⟩
          rw [← hnx] at hcsa ga
          clear hnx
          obtain ⟨p, hp⟩ : ∃ p, p = y1.heap.size := ⟨_, rfl⟩
          obtain ⟨Y1, hY1⟩ : ∃ W, W = y1.alloc (.cells #[.string ⟨nx.toArray⟩, .int .i64 0, .slice none 0 0, .int .i64 0] 45) := ⟨_, rfl⟩
          have tY1 : Tch [] y1 Y1 := by rw [hY1]; exact (Tch.refl [] y1).alloc _
          have b1 : Y1.heap[p]? = some (.cells #[.string ⟨nx.toArray⟩, .int .i64 0, .slice none 0 0, .int .i64 0] 45 (0, 0)) := by rw [hY1, hp]; exact heap_alloc_new y1 _
          have hol := O.lts
          have z1 := ta.size
          have hpp : q < p ∧ g < p ∧ row < p ∧ wr.heap.size ≤ p := by omega
          have S1 : RSt 89 Y1 q [p, row, g] sta := (Sa.mono (L' := [p, row, g]) (fun i hi hlt => by simp at hi ⊢; omega)).tch tY1 (by simp) (by simp)
          have GA := Lib.hid ga
          go_upto_region 16 with fail
          rw [← hY1, ← hp]
          clear hY1 hcsa sa ga hp
          go_wp2_with fail
          refine (rr_U8 Y1 q _ _ S1).mono ?_
          rintro e y2 ⟨vx, rfl, vx0, vx1, stb, gb, Sb, tb⟩
          have b2 := (tb.block p (heap_lt b1) (by simp; omega)).trans b1
          obtain ⟨x0, x1, x2, x3, u0, u1, u2, u3⟩ := B4.of b2
          obtain ⟨Y2, hY2⟩ : ∃ W, W = y2.setCell ⟨p, 1, none⟩ (.int .i64 vx) := ⟨_, rfl⟩
          have tY2 : Tch [p] y2 Y2 := by rw [hY2]; exact (Tch.refl [p] y2).setCell (.inl (by simp)) _
          have bY2 : Y2.heap[p]? = some (.cells #[.string ⟨nx.toArray⟩, .int .i64 vx, .slice none 0 0, .int .i64 0] 45 (0, 0)) := by rw [hY2]; exact box_setc b2 1 _
          have S2 : RSt 89 Y2 q [p, row, g] stb := Sb.tch tY2 (by simp; omega) (by simp)
          go_upto_region 17 with fail
          rw [← hY2]
          clear hY2 x0 x1 x2 x3 u0 u1 u2 u3
          go_wp2_with fail
          refine (rf_readList Y2 q _ _ S2).mono ?_
          rintro e y3 ⟨ap, cp, ps, rfl, Ic, stc, gc, hpl, Sc, tc⟩
          have Ip := Ic [p, row, q, g, w0.heap.size] (by have := heap_lt bY2; intro i hi; simp at hi; omega)
          have b3 := (tc.block p (heap_lt bY2) (by simp; omega)).trans bY2
          clear Ic
          obtain ⟨x0, x1, x2, x3, u0, u1, u2, u3⟩ := B4.of b3
          obtain ⟨Y3, hY3⟩ : ∃ W, W = y3.setCell ⟨p, 2, none⟩ (.slice ap ps.length cp) := ⟨_, rfl⟩
          have tY3 : Tch [p] y3 Y3 := by rw [hY3]; exact (Tch.refl [p] y3).setCell (.inl (by simp)) _
          have bY3 : Y3.heap[p]? = some (.cells #[.string ⟨nx.toArray⟩, .int .i64 vx, .slice ap ps.length cp, .int .i64 0] 45 (0, 0)) := by rw [hY3]; exact box_setc b3 2 _
          have S3 : RSt 89 Y3 q [p, row, g] stc := Sc.tch tY3 (by simp; omega) (by simp)
          have Ip3 := Ip.tch tY3 (by simp)
          go_upto_region 18 with fail
          rw [← hY3]
          clear hY3 x0 x1 x2 x3 u0 u1 u2 u3
          go_wp2_with fail
          refine (rr_U8 Y3 q _ _ S3).mono ?_
          rintro e y4 ⟨vr, rfl, vr0, vr1, std, gd, Sd, td⟩
          have b4 := (td.block p (heap_lt bY3) (by simp; omega)).trans bY3
          have Ip4 := Ip3.tch td (by simp)
          obtain ⟨x0, x1, x2, x3, u0, u1, u2, u3⟩ := B4.of b4
          obtain ⟨Y4, hY4⟩ : ∃ W, W = y4.setCell ⟨p, 3, none⟩ (.int .i64 vr) := ⟨_, rfl⟩
          have tY4 : Tch [p] y4 Y4 := by rw [hY4]; exact (Tch.refl [p] y4).setCell (.inl (by simp)) _
          have bY4 : Y4.heap[p]? = some (.cells #[.string ⟨nx.toArray⟩, .int .i64 vx, .slice ap ps.length cp, .int .i64 vr] 45 (0, 0)) := by rw [hY4]; exact box_setc b4 3 _
          have S4 : RSt 89 Y4 q [p, row, g] std := Sd.tch tY4 (by simp; omega) (by simp)
          have Ip5 := Ip4.tch tY4 (by simp)
          go_upto_region 19 with fail
          rw [← hY4]
          clear hY4 x0 x1 x2 x3 u0 u1 u2 u3
          have T4 : Tch [q] wr Y4 := ((((((ta.more tY1 (by simp)).more tb (by simp)).more tY2 (by simp; omega)).more tc (by simp)).more tY3 (by simp; omega)).more td (by simp)).more tY4 (by simp; omega)
          have O4 := O.tch (fun d x r => r.tch T4 (fun i hi _ => by simp at hi ⊢; simp [hi])) T4 (by simp; omega) (by simp; omega)
          obtain ⟨css, hcl, hcz, hoB, hel⟩ := O4.ex
          obtain ⟨v0, hv0, hown, hrow, hne⟩ := hoB.ex
          obtain ⟨a0, k0, rfl⟩ := ownsRow_form hown
          have hgY := heap_lt hv0
          have cg : Y4.cell? ⟨g, 2, none⟩ = some (.slice a0 xs.length k0) := by simp [World.cell?, hv0]
          have fg : Y4.frozen? ⟨g, 2, none⟩ = false := by simp [World.frozen?, hv0]
          have hbnd : xs.length + 1 ≤ 9223372036854775807 ∧ (xs.length + 1) * 56 ≤ 140737488355328 := by omega
          have hcp := cells_of_heap bY4
          have GX := Lib.hid (Got.one gx (Got.mkImp GA.out gb gc gd))
          have HW := Lib.hid hrow
          clear O O4 hoB gx gb gc gd S S1 S2 S3 Sa Sb Sc Sd Ip Ip3 Ip4 b1 b2 b3 b4 bY2 bY3 hrow
          go_wp2_with (first | (refine wpList_load_agg rfl 45 (.tmp 9) rfl ⟨p, 0, none⟩ rfl #[.string ⟨nx.toArray⟩, .int .i64 vx, .slice ap ps.length cp, .int .i64 vr] _ hcp Tryz.underlying45 rfl (by kernel_rfl) ?_) | (at_builtin; refine wpList_append_any _ rfl (.tmp 68) (.tmp 70) 24 rfl 45 i1 (.agg #[.string ⟨#[]⟩, .int .i64 0, .slice none 0 0, .int .i64 0]) 4 56 Tryz.underlying24 hi1 hz10 hz11 hz12 rfl (by decide) (.slice a0 xs.length k0) xs.length css.flatten rfl (hown.alloc _) [] _ 1 _ rfl (src_new _ _ [] _ _ 1 1 (Tch.refl [] _) (by simp)) rfl (by intro u hu; simp at hu; rcases hu with rfl | rfl | rfl | rfl <;> rfl) hbnd ?_; intro ao5 cap5 w5 hown5 hgrow5 hat5; have c5 := (hgrow5.cell_far ⟨g, 2, none⟩ (Nat.lt_of_lt_of_le hgY (Tch.alloc (Tch.refl [] _) _).size) (fun e => hne e.symm)).trans ((World.cell?_alloc_past _ _ _ hgY).trans cg); have f5 := (hgrow5.frozen_far ⟨g, 2, none⟩ (Nat.lt_of_lt_of_le hgY (Tch.alloc (Tch.refl [] _) _).size) (fun e => hne e.symm)).trans ((World.frozen?_alloc_past _ _ _ hgY).trans fg)))
          obtain ⟨row', O5, o2, o3⟩ := OL.push (R := RImp) (x := ⟨nx, vx, ps, vr⟩) (fun _ _ _ _ _ _ r t h => r.tch t h) (fun _ _ _ _ _ r h => r.mono h) hcl hcz hel hv0 hne HW.out ((Tch.refl [] Y4).alloc _) hgrow5 hown5 hat5 rfl ⟨_, rfl, Ip5.mono (fun i hi _ => by simp at hi ⊢; rcases hi with hi | hi | hi | hi <;> simp [hi])⟩ (by simp)
          have zt := t.size
          have z4 := T4.size
          go_roundw
          case rel => exact ⟨xs.length + 1, xs ++ [⟨nx, vx, ps, vr⟩], std, row', by omega, by go_num, by simp, GX.out, RSt.push (S4.mono (fun i hi _ => List.mem_cons_of_mem _ hi)) o2 o3 (by omega) (by omega), O5, by omega, (t.more T4 (by simp)).more o3 (by simp; omega)⟩
          case measure => simp [intOf]; omega
      · have hd : decide ((0 : Int) < n - (xs.length : Int)) = false := decide_eq_false (by omega)
        have hkn2 : xs.length = n.toNat := by omega
        have GX := Lib.hid (Got.cnt g3 (show Got (repP impP n.toNat) st3 xs st by rw [← hkn2]; exact gx))
        clear gx hkn2
        go_wp2_with fail
        go_meet
        case rel => exact ⟨xs, st, row, GX.out, by omega, S, O, hrw, t⟩
  case rest =>
    obtain ⟨xs, st4, row, gi, hxl, S4, O4, hrw, t4⟩ := hcut
    have T4 : Tch [q] y wc := T3.more t4 (by simp; omega)
    have hol := O4.lts
    have hqc := S4.lt
    obtain ⟨ai, ci, hX4, R4⟩ := OL.reads O4 [q, g, w0.heap.size] (by rcases hrw with h | h; exact .inr h; exact .inl (by simp; omega)) (fun d x r => r.mono (fun i hi _ => List.mem_cons_of_mem _ hi))
    have R4' : RImps wc [q, g, w0.heap.size] (.slice ai xs.length ci) xs := R4
    have J4 := I4.tch t4 (by simp)
    have hX4' : wc.heap[g]? = some (.cells #[.string ⟨nm.toArray⟩, .slice af fs.length cf, .slice ai xs.length ci, .slice none 0 0, .slice none 0 0] 27 (0, 0)) := hX4
    clear O4 R4 hX4 I4 O3 S3' T3 t4
    go_wp2_with fail
    refine (rr_U8 wc q _ st4 S4).mono ?_
    rintro e w5 ⟨n2, rfl, hb0, hb1, st5, g5, S5, tw5⟩
    have hX5 : w5.heap[g]? = some (.cells #[.string ⟨nm.toArray⟩, .slice af fs.length cf, .slice ai xs.length ci, .slice none 0 0, .slice none 0 0] 27 (0, 0)) := (tw5.block g (heap_lt hX4') (by simp; omega)).trans hX4'
    have J5 := J4.tch tw5 (by simp)
    have R5 := R4'.tch tw5 (by simp)
    have T5 : Tch [q] y w5 := T4.more tw5 (by simp)
    have S5' : RSt 89 w5 q [g, g] st5 := S5.mono (fun i hi _ => by simp at hi ⊢; simp [hi])
    have O5 : OL w5 27 50 4 g 3 g #[.string ⟨nm.toArray⟩, .slice af fs.length cf, .slice ai xs.length ci, .slice none 0 0, .slice none 0 0] [q, g, w0.heap.size] RMth [] := ⟨[], rfl, by simp, ⟨.slice none 0 0, hX5, World.ownsRow_nil _ _ _ _, rfl, by simp [Value.ownBlock]⟩, by simp⟩
    have hg5 := heap_lt hX5
    have HM := Lib.hid (show ∀ ms e, Got (cntP mthP) st4 ms (.error e) → imgP (b0.drop 5) = .error e from fun ms e h => Got.to_err (Got.mkImg (ex := []) g1 g2 gi h (Got.err0 _ _ _)))
    clear S4 S5 R4' J4 hX4' hX5 tw5 T4
    go_upto_block 2 with fail
    go_cut [] (fun wz => ∃ (ms : List Mth) (st : St) (row2 : Nat), Got (cntP mthP) st4 ms st ∧ ms.length ≤ 255 ∧ RSt 89 wz q [row2, g] st ∧ OL wz 27 50 4 g 3 row2 #[.string ⟨nm.toArray⟩, .slice af fs.length cf, .slice ai xs.length ci, .slice none 0 0, .slice none 0 0] [q, g, w0.heap.size] RMth ms ∧ (row2 = g ∨ w5.heap.size ≤ row2) ∧ Tch [q, g] w5 wz)
    case first =>
      go_wp2_with fail
      go_loopw [10] (fun cz wz => ∃ (k : Nat) (ms : List Mth) (st : St) (row2 : Nat), k ≤ n2.toNat ∧ cz = .int .i64 (n2 - k) ∧ ms.length = k ∧ Got (repP mthP k) st5 ms st ∧ RSt 89 wz q [row2, g] st ∧ OL wz 27 50 4 g 3 row2 #[.string ⟨nm.toArray⟩, .slice af fs.length cf, .slice ai xs.length ci, .slice none 0 0, .slice none 0 0] [q, g, w0.heap.size] RMth ms ∧ (row2 = g ∨ w5.heap.size ≤ row2) ∧ Tch [q, g] w5 wz) (fun cz _ => (intOf cz).toNat)
      case atStart => exact ⟨0, [], st5, g, by omega, by simp, rfl, Got.ret _ _, S5', O5, .inl rfl, Tch.refl _ _⟩
      case round =>
        obtain ⟨_, ms, st, row2, hk, rfl, rfl, gm, S, O, hrw2, t⟩ := hrel
        have hqr := S.lt
        by_cases hkn : ms.length < n2.toNat
        · have hd : decide ((0 : Int) < n2 - (ms.length : Int)) = true := decide_eq_true (by omega)
          cases st with
          | error e =>
            have hlk : wr.cell? ⟨q, 1, none⟩ = some (.bool true) := S.lackC
            have GX := Lib.hid (Got.cnt g5 (Got.rep gm hk))
            clear gm
            go_wp2_with fail
            go_meet
            case rel => exact ⟨ms, .error e, row2, GX.out, by omega, S, O, hrw2, t⟩
          | ok l =>
            have hlk : wr.cell? ⟨q, 1, none⟩ = some (.bool false) := S.lackC
            have hw : wrap64 (n2 - (ms.length : Int) - 1) = n2 - (ms.length : Int) - 1 := IntWalk.wrap64_in _ (by omega)
            obtain ⟨p, hp⟩ : ∃ p, p = wr.heap.size := ⟨_, rfl⟩
            obtain ⟨Z0, hZ0⟩ : ∃ W, W = wr.alloc (.cells #[.slice none 0 0, .int .i64 0, .slice none 0 0, .slice none 0 0] 50) := ⟨_, rfl⟩
            have tZ0 : Tch [] wr Z0 := by rw [hZ0]; exact (Tch.refl [] wr).alloc _
            have bZ0 : Z0.heap[p]? = some (.cells #[.slice none 0 0, .int .i64 0, .slice none 0 0, .slice none 0 0] 50 (0, 0)) := by rw [hZ0, hp]; exact heap_alloc_new wr _
            have hol := O.lts
            have hpp : q < p ∧ g < p ∧ row2 < p ∧ wr.heap.size ≤ p := by omega
            have S1 : RSt 89 Z0 q [p, row2, g] (.ok l) := (S.mono (L' := [p, row2, g]) (fun i hi hlt => by simp at hi ⊢; omega)).tch tZ0 (by simp) (by simp)
            have TyR : Tch [q] y wr := T5.more t (by simp; omega)
            have hyp : y.heap.size ≤ p := by have := TyR.size; omega
            go_upto_region 24 with fail
            rw [← hZ0, ← hp]
            clear hZ0 hp
            go_wp2_with fail
            refine (rf_readList Z0 q _ _ S1).mono ?_
            rintro e y1 ⟨ap, cp, ps, rfl, Ic, sta, ga, hpl, Sa, ta⟩
            have Ip := Ic [p, row2, q, g, w0.heap.size] (by have := heap_lt bZ0; intro i hi; simp at hi; omega)
            have b1 := (ta.block p (heap_lt bZ0) (by simp; omega)).trans bZ0
            clear Ic
            obtain ⟨x0, x1, x2, x3, u0, u1, u2, u3⟩ := B4.of b1
            obtain ⟨Y1, hY1⟩ : ∃ W, W = y1.setCell ⟨p, 0, none⟩ (.slice ap ps.length cp) := ⟨_, rfl⟩
            have tY1 : Tch [p] y1 Y1 := by rw [hY1]; exact (Tch.refl [p] y1).setCell (.inl (by simp)) _
            have bY1 : Y1.heap[p]? = some (.cells #[.slice ap ps.length cp, .int .i64 0, .slice none 0 0, .slice none 0 0] 50 (0, 0)) := by rw [hY1]; exact box_setc b1 0 _
            have S2 : RSt 89 Y1 q [p, row2, g] sta := Sa.tch tY1 (by simp; omega) (by simp)
            have Ip1 := Ip.tch tY1 (by simp)
            go_upto_region 25 with fail
            rw [← hY1]
            clear hY1 x0 x1 x2 x3 u0 u1 u2 u3
            go_wp2_with fail
            refine (rr_U8 Y1 q _ _ S2).mono ?_
            rintro e y2 ⟨rs, rfl, rs0, rs1, stb, gb, Sb, tb⟩
            have b2 := (tb.block p (heap_lt bY1) (by simp; omega)).trans bY1
            have Ip2 := Ip1.tch tb (by simp)
            obtain ⟨x0, x1, x2, x3, u0, u1, u2, u3⟩ := B4.of b2
            obtain ⟨Y2, hY2⟩ : ∃ W, W = y2.setCell ⟨p, 1, none⟩ (.int .i64 rs) := ⟨_, rfl⟩
            have tY2 : Tch [p] y2 Y2 := by rw [hY2]; exact (Tch.refl [p] y2).setCell (.inl (by simp)) _
            have bY2 : Y2.heap[p]? = some (.cells #[.slice ap ps.length cp, .int .i64 rs, .slice none 0 0, .slice none 0 0] 50 (0, 0)) := by rw [hY2]; exact box_setc b2 1 _
            have S3 : RSt 89 Y2 q [p, row2, g] stb := Sb.tch tY2 (by simp; omega) (by simp)
            have Ip3 := Ip2.tch tY2 (by simp)
            go_upto_region 26 with fail
            rw [← hY2]
            clear hY2 x0 x1 x2 x3 u0 u1 u2 u3
            go_wp2_with fail
            refine (rf_readList Y2 q _ _ S3).mono ?_
            rintro e y3 ⟨al, cl, ls, rfl, Il, stc, gc, hll, Sc, tc⟩
            have Iq := Il [p, row2, q, g, w0.heap.size] (by have := heap_lt bY2; intro i hi; simp at hi; omega)
            have b3 := (tc.block p (heap_lt bY2) (by simp; omega)).trans bY2
            have Ip4 := Ip3.tch tc (by simp)
            clear Il
            obtain ⟨x0, x1, x2, x3, u0, u1, u2, u3⟩ := B4.of b3
            obtain ⟨Y3, hY3⟩ : ∃ W, W = y3.setCell ⟨p, 2, none⟩ (.slice al ls.length cl) := ⟨_, rfl⟩
            have tY3 : Tch [p] y3 Y3 := by rw [hY3]; exact (Tch.refl [p] y3).setCell (.inl (by simp)) _
            have bY3 : Y3.heap[p]? = some (.cells #[.slice ap ps.length cp, .int .i64 rs, .slice al ls.length cl, .slice none 0 0] 50 (0, 0)) := by rw [hY3]; exact box_setc b3 2 _
            have S4m : RSt 89 Y3 q [p, row2, g] stc := Sc.tch tY3 (by simp; omega) (by simp)
            have Ip5 := Ip4.tch tY3 (by simp)
            have Iq2 := Iq.tch tY3 (by simp)
            go_upto_region 27 with fail
            rw [← hY3]
            clear hY3 x0 x1 x2 x3 u0 u1 u2 u3
            go_wp2_with fail
            refine (rr_U8 Y3 q _ _ S4m).mono ?_
            rintro e y4 ⟨n3, rfl, hc0, hc1, std, gd, Sd, td⟩
            have b4 : y4.heap[p]? = some (.cells #[.slice ap ps.length cp, .int .i64 rs, .slice al ls.length cl, .slice none 0 0] 50 (0, 0)) := (td.block p (heap_lt bY3) (by simp; omega)).trans bY3
            have Ip6 := Ip5.tch td (by simp)
            have Iq3 := Iq2.tch td (by simp)
            have T4r : Tch [q] wr y4 := (((((((tZ0.nil (L := [q])).more ta (by simp)).more tY1 (by simp; omega)).more tb (by simp)).more tY2 (by simp; omega)).more tc (by simp)).more tY3 (by simp; omega)).more td (by simp)
            have Ty4 : Tch [q] y y4 := TyR.more T4r (by simp)
            have Sd' : RSt 89 y4 q [p, p, row2, g] std := Sd.mono (fun i hi _ => by simp at hi ⊢; rcases hi with hi | hi | hi <;> simp [hi])
            have Oc : OL y4 50 47 3 p 3 p #[.slice ap ps.length cp, .int .i64 rs, .slice al ls.length cl, .slice none 0 0] [p] RIns [] := ⟨[], rfl, by simp, ⟨.slice none 0 0, b4, World.ownsRow_nil _ _ _ _, rfl, by simp [Value.ownBlock]⟩, by simp⟩
            have HC := Lib.hid (show ∀ c e, Got (cntP insP) stc c (.error e) → imgP (b0.drop 5) = .error e from fun c e h => HM.out _ e (Got.cnt g5 (Got.rep (Got.one gm (Got.mkMth ga gb gc h)) (by omega))))
            have hpl4 := heap_lt b4
            have GA := Lib.hid ga
            have GB := Lib.hid gb
            have GC := Lib.hid gc
            have GMM := Lib.hid gm
            have zy4 := T4r.size
            clear b1 b2 b3 b4 bZ0 bY1 bY2 bY3 Ip Ip1 Ip2 Ip3 Ip4 Ip5 Iq Iq2 S1 S2 S3 S4m Sa Sb Sc Sd ta tb tc td tY1 tY2 tY3 tZ0 ga gb gc gm hlk
            go_upto_block 4 with fail
            go_cut [] (fun wz => ∃ (c : List Ins) (st : St) (row3 : Nat), Got (cntP insP) stc c st ∧ c.length ≤ 255 ∧ RSt 89 wz q [row3, p, row2, g] st ∧ OL wz 50 47 3 p 3 row3 #[.slice ap ps.length cp, .int .i64 rs, .slice al ls.length cl, .slice none 0 0] [p] RIns c ∧ (row3 = p ∨ y4.heap.size ≤ row3) ∧ Tch [q, p] y4 wz)
            case first =>
              go_wp2_with fail
              go_loopw [12] (fun cz wz => ∃ (k : Nat) (c : List Ins) (st : St) (row3 : Nat), k ≤ n3.toNat ∧ cz = .int .i64 (n3 - k) ∧ c.length = k ∧ Got (repP insP k) std c st ∧ RSt 89 wz q [row3, p, row2, g] st ∧ OL wz 50 47 3 p 3 row3 #[.slice ap ps.length cp, .int .i64 rs, .slice al ls.length cl, .slice none 0 0] [p] RIns c ∧ (row3 = p ∨ y4.heap.size ≤ row3) ∧ Tch [q, p] y4 wz) (fun cz _ => (intOf cz).toNat)
              case atStart => exact ⟨0, [], std, p, by omega, by simp, rfl, Got.ret _ _, Sd', Oc, .inl rfl, Tch.refl _ _⟩
              case round =>
                obtain ⟨_, c, st, row3, hk3, rfl, rfl, gx, Sx, Ox, hrw3, tx⟩ := hrel
                have hqx := Sx.lt
                by_cases hkn3 : c.length < n3.toNat
                · have hd3 : decide ((0 : Int) < n3 - (c.length : Int)) = true := decide_eq_true (by omega)
                  cases st with
                  | error e =>
                    have hlx : wr.cell? ⟨q, 1, none⟩ = some (.bool true) := Sx.lackC
                    have GX := Lib.hid (Got.cnt gd (Got.rep gx hk3))
                    clear gx
                    go_wp2_with fail
                    go_meet
                    case rel => exact ⟨c, .error e, row3, GX.out, by omega, Sx, Ox, hrw3, tx⟩
                  | ok l2 =>
                    have hlx : wr.cell? ⟨q, 1, none⟩ = some (.bool false) := Sx.lackC
                    have hw3 : wrap64 (n3 - (c.length : Int) - 1) = n3 - (c.length : Int) - 1 := IntWalk.wrap64_in _ (by omega)
                    go_wp2_with fail
                    refine (rr_code wr q _ l2 Sx).mono ?_
                    rintro e z1 ⟨x, er, rfl, hok, hbad, tz⟩
                    obtain ⟨p3, hp3⟩ : ∃ p, p = z1.heap.size := ⟨_, rfl⟩
                    obtain ⟨Z1, hZ1⟩ : ∃ W, W = z1.alloc (.cells #[.int .i64 x.op, .int .i64 x.a, .int .i64 x.b] 47) := ⟨_, rfl⟩
                    have tZ1 : Tch [] z1 Z1 := by rw [hZ1]; exact (Tch.refl [] z1).alloc _
                    have bZ1 : Z1.heap[p3]? = some (.cells #[.int .i64 x.op, .int .i64 x.a, .int .i64 x.b] 47 (0, 0)) := by rw [hZ1, hp3]; exact heap_alloc_new z1 _
                    have hox := Ox.lts
                    have zz := tz.size
                    have zx := tx.size
                    have TZ : Tch [q] wr Z1 := tz.more tZ1 (by simp)
                    have TyZ : Tch [q] y Z1 := (Ty4.more tx (by simp; omega)).more TZ (by simp)
                    go_upto_region 31 with fail
                    rw [← hZ1, ← hp3]
                    clear hZ1 hp3
                    by_cases he : er = 0
                    · subst he
                      obtain ⟨st', gx2, Sx2⟩ := hok rfl
                      have Sx3 := Sx2.tch tZ1 (by simp) (by simp)
                      have Ox2 := OL.tch (R := RIns) (w := wr) (w' := Z1) (fun d x r => r) Ox TZ (by simp; omega) (by simp; omega)
                      obtain ⟨css, hcl, hcz, hoB, hel⟩ := Ox2.ex
                      obtain ⟨v0, hv0, hown, hrow, hne⟩ := hoB.ex
                      obtain ⟨a0, k0, rfl⟩ := ownsRow_form hown
                      have hgY := heap_lt hv0
                      have cg : Z1.cell? ⟨p, 3, none⟩ = some (.slice a0 c.length k0) := by simp [World.cell?, hv0]
                      have fg : Z1.frozen? ⟨p, 3, none⟩ = false := by simp [World.frozen?, hv0]
                      have hbnd : c.length + 1 ≤ 9223372036854775807 ∧ (c.length + 1) * 24 ≤ 140737488355328 := by omega
                      have hcx := cells_of_heap bZ1
                      have GX := Lib.hid (Got.one gx gx2)
                      have HW := Lib.hid hrow
                      clear Ox Ox2 hoB gx gx2 hok hbad Sx Sx2 hrow
                      go_wp2_with (first | (refine wpList_load_agg rfl 47 (.tmp 13) rfl ⟨p3, 0, none⟩ rfl #[.int .i64 x.op, .int .i64 x.a, .int .i64 x.b] _ hcx Tryz.underlying47 rfl (by kernel_rfl) ?_) | (at_builtin; refine wpList_append_any _ rfl (.tmp 118) (.tmp 120) 48 rfl 47 i3 (.agg #[.int .i64 0, .int .i64 0, .int .i64 0]) 3 24 Tryz.underlying48 hi3 hz30 hz31 hz32 rfl (by decide) (.slice a0 c.length k0) c.length css.flatten rfl (hown.alloc _) [] _ 1 _ rfl (src_new _ _ [] _ _ 1 1 (Tch.refl [] _) (by simp)) rfl (by intro u hu; simp at hu; rcases hu with rfl | rfl | rfl <;> rfl) hbnd ?_; intro ao5 cap5 w5 hown5 hgrow5 hat5; have c5 := (hgrow5.cell_far ⟨p, 3, none⟩ (Nat.lt_of_lt_of_le hgY (Tch.alloc (Tch.refl [] _) _).size) (fun e => hne e.symm)).trans ((World.cell?_alloc_past _ _ _ hgY).trans cg); have f5 := (hgrow5.frozen_far ⟨p, 3, none⟩ (Nat.lt_of_lt_of_le hgY (Tch.alloc (Tch.refl [] _) _).size) (fun e => hne e.symm)).trans ((World.frozen?_alloc_past _ _ _ hgY).trans fg)))
                      obtain ⟨row', O5, o2, o3⟩ := OL.push (R := RIns) (x := x) (fun _ _ _ _ _ _ r _ _ => r) (fun _ _ _ _ _ r _ => r) hcl hcz hel hv0 hne HW.out ((Tch.refl [] Z1).alloc _) hgrow5 hown5 hat5 rfl rfl (by simp)
                      have zt := TZ.size
                      go_roundw
                      case rel => exact ⟨c.length + 1, c ++ [x], st', row', by omega, by go_num, by simp, GX.out, RSt.push Sx3 o2 o3 (by omega) (by omega), O5, by omega, (tx.more TZ (by simp)).more o3 (by simp; omega)⟩
                      case measure => simp [intOf]; omega
                    · have hne0 : (er != 0) = true := by simpa using he
                      have HRI := Lib.hid (HE.out er (HC.out _ er (Got.cnt gd (Got.rep (Got.one gx (hbad he)) (by omega)))))
                      have TwZ : Tch [] w0 Z1 := twy.trans TyZ (by simp) (fun i hlt hi => by simp at hi; omega)
                      have hRZ := (TyZ.block w0.heap.size (heap_lt hRy) (by simp; omega)).trans hRy
                      have hNZ := (TyZ.block (w0.heap.size + 1) (heap_lt hNy) (by simp; omega)).trans hNy
                      clear hok hbad gx Sx Ox
                      obtain ⟨a0, a1, a2, a3, a4, v0, v1, v2, v3, v4⟩ := F5.of (hRZ)
                      have hNc := cells_of_heap (hNZ)
                      go_wp2_with (first | (refine wpList_load_agg rfl 27 (.tmp 4) rfl ⟨(w0.heap.size + 1), 0, none⟩ rfl #[.string ⟨#[]⟩, .slice none 0 0, .slice none 0 0, .slice none 0 0, .slice none 0 0] _ hNc Tryz.underlying27 rfl (by kernel_rfl) ?_) | fail)
                      refine bodyPost_ret (v := .tuple #[.agg #[.string ⟨#[]⟩, .slice none 0 0, .slice none 0 0, .slice none 0 0, .slice none 0 0], .int .i64 er]) (by simp [results, Tryz.results15, go_sem, a0, a1, a2, a3, a4, v0, v1, v2, v3, v4]) rfl ?_
                      rw [HRI.out]
                      obtain ⟨n1, n2, n3, n4, n5⟩ := hno ((((((Z1.setCell ⟨w0.heap.size, 0, none⟩ (.string ⟨#[]⟩)).setCell ⟨w0.heap.size, 1, none⟩ (.slice none 0 0)).setCell ⟨w0.heap.size, 2, none⟩ (.slice none 0 0)).setCell ⟨w0.heap.size, 3, none⟩ (.slice none 0 0)).setCell ⟨w0.heap.size, 4, none⟩ (.slice none 0 0)))
                      exact ⟨_, _, _, _, rfl, n1, n2, n3, n4, n5, (((((TwZ.setCell (.inr hw0) _).setCell (.inr hw0) _).setCell (.inr hw0) _).setCell (.inr hw0) _).setCell (.inr hw0) _)⟩
                · have hd3 : decide ((0 : Int) < n3 - (c.length : Int)) = false := decide_eq_false (by omega)
                  have hkn4 : c.length = n3.toNat := by omega
                  have GX := Lib.hid (Got.cnt gd (show Got (repP insP n3.toNat) std c st by rw [← hkn4]; exact gx))
                  clear gx hkn4
                  go_wp2_with fail
                  go_meet
                  case rel => exact ⟨c, st, row3, GX.out, by omega, Sx, Ox, hrw3, tx⟩
            case rest =>
              obtain ⟨c, st, row3, gcc, hcl3, S3r, O3r, hrw3, t3r⟩ := hcut
              have hol3 := O3r.lts
              have hq3 := S3r.lt
              obtain ⟨ac, cc, hXc, Rc⟩ := OL.reads O3r [row2, q, g, w0.heap.size] (by rcases hrw3 with h | h; exact .inr h; exact .inl (by simp; omega)) (fun d x r => r)
              have RC : RCode wc [row2, q, g, w0.heap.size] (.slice ac c.length cc) c := code_of_RL Rc
              have hXp : wc.heap[p]? = some (.cells #[.slice ap ps.length cp, .int .i64 rs, .slice al ls.length cl, .slice ac c.length cc] 50 (0, 0)) := hXc
              have Tc := T4r.more t3r (by simp; omega)
              have Ip7 := Ip6.tch t3r (by simp)
              have Iq4 := Iq3.tch t3r (by simp)
              have O7 := O.tch (w' := wc) (fun d x r => r.tch Tc (fun i hi _ => by simp at hi ⊢; simp [hi])) Tc (by simp; omega) (by simp; omega)
              obtain ⟨css, hcl, hcz, hoB, hel⟩ := O7.ex
              obtain ⟨v0, hv0, hown, hrow, hne⟩ := hoB.ex
              obtain ⟨a0, k0, rfl⟩ := ownsRow_form hown
              have hgY := heap_lt hv0
              have cg : wc.cell? ⟨g, 3, none⟩ = some (.slice a0 ms.length k0) := by simp [World.cell?, hv0]
              have fg : wc.frozen? ⟨g, 3, none⟩ = false := by simp [World.frozen?, hv0]
              have hbnd : ms.length + 1 ≤ 9223372036854775807 ∧ (ms.length + 1) * 80 ≤ 140737488355328 := by omega
              have hcp := cells_of_heap hXp
              have GX := Lib.hid (Got.one GMM.out (Got.mkMth GA.out GB.out GC.out gcc))
              have HW := Lib.hid hrow
              clear O O7 O3r hoB gcc S hrow Rc hXc Ip6 Iq3 Oc Sd'
              go_wp2_with (first | (refine wpList_load_agg rfl 50 (.tmp 11) rfl ⟨p, 0, none⟩ rfl #[.slice ap ps.length cp, .int .i64 rs, .slice al ls.length cl, .slice ac c.length cc] _ hcp Tryz.underlying50 rfl (by kernel_rfl) ?_) | (at_builtin; refine wpList_append_any _ rfl (.tmp 124) (.tmp 126) 25 rfl 50 i2 (.agg #[.slice none 0 0, .int .i64 0, .slice none 0 0, .slice none 0 0]) 4 80 Tryz.underlying25 hi2 hz20 hz21 hz22 rfl (by decide) (.slice a0 ms.length k0) ms.length css.flatten rfl (hown.alloc _) [] _ 1 _ rfl (src_new _ _ [] _ _ 1 1 (Tch.refl [] _) (by simp)) rfl (by intro u hu; simp at hu; rcases hu with rfl | rfl | rfl | rfl <;> rfl) hbnd ?_; intro ao5 cap5 w5 hown5 hgrow5 hat5; have c5 := (hgrow5.cell_far ⟨g, 3, none⟩ (Nat.lt_of_lt_of_le hgY (Tch.alloc (Tch.refl [] _) _).size) (fun e => hne e.symm)).trans ((World.cell?_alloc_past _ _ _ hgY).trans cg); have f5 := (hgrow5.frozen_far ⟨g, 3, none⟩ (Nat.lt_of_lt_of_le hgY (Tch.alloc (Tch.refl [] _) _).size) (fun e => hne e.symm)).trans ((World.frozen?_alloc_past _ _ _ hgY).trans fg)))
              obtain ⟨row', O8, o2, o3⟩ := OL.push (R := RMth) (x := ⟨ps, rs, ls, c⟩) (fun _ _ _ _ _ _ r t h => r.tch t h) (fun _ _ _ _ _ r h => r.mono h) hcl hcz hel hv0 hne HW.out ((Tch.refl [] wc).alloc _) hgrow5 hown5 hat5 rfl ⟨_, _, _, rfl, Ip7.mono (fun i hi _ => by simp at hi ⊢; rcases hi with hi | hi | hi | hi <;> simp [hi]), Iq4.mono (fun i hi _ => by simp at hi ⊢; rcases hi with hi | hi | hi | hi <;> simp [hi]), RC.mono (fun i hi _ => by simp at hi ⊢; rcases hi with hi | hi | hi | hi <;> simp [hi])⟩ (by simp)
              have zt := t.size
              have z4 := Tc.size
              go_roundw
              case rel => exact ⟨ms.length + 1, ms ++ [⟨ps, rs, ls, c⟩], st, row', by omega, by go_num, by simp, GX.out, RSt.push (S3r.mono (fun i hi _ => by simp at hi ⊢; rcases hi with hi | hi <;> simp [hi])) o2 o3 (by omega) (by omega), O8, by omega, (t.more Tc (by simp)).more o3 (by simp; omega)⟩
              case measure => simp [intOf]; omega
        · have hd : decide ((0 : Int) < n2 - (ms.length : Int)) = false := decide_eq_false (by omega)
          have hkn2 : ms.length = n2.toNat := by omega
          have GX := Lib.hid (Got.cnt g5 (show Got (repP mthP n2.toNat) st5 ms st by rw [← hkn2]; exact gm))
          clear gm hkn2
          go_wp2_with fail
          go_meet
          case rel => exact ⟨ms, st, row2, GX.out, by omega, S, O, hrw2, t⟩
    case rest =>
      obtain ⟨ms, st6, row2, gm, hml, S6, O6, hrw2, t6⟩ := hcut
      have hol6 := O6.lts
      have hq6 := S6.lt
      have T6 : Tch [q] y wc := T5.more t6 (by simp; omega)
      obtain ⟨am, cm, hX6, R6⟩ := OL.reads O6 [q, g, w0.heap.size] (by rcases hrw2 with h | h; exact .inr h; exact .inl (by simp; omega)) (fun d x r => r.mono (fun i hi _ => List.mem_cons_of_mem _ hi))
      have R6' : RMths wc [q, g, w0.heap.size] (.slice am ms.length cm) ms := R6
      have J6 := J5.tch t6 (by simp)
      have Q6 := R5.tch t6 (by simp)
      have hX6' : wc.heap[g]? = some (.cells #[.string ⟨nm.toArray⟩, .slice af fs.length cf, .slice ai xs.length ci, .slice am ms.length cm, .slice none 0 0] 27 (0, 0)) := hX6
      clear O6 R6 hX6 O5 S5' t6 J5 R5
      go_wp2_with fail
      refine (rf_readList wc q _ _ S6).mono ?_
      rintro e w7 ⟨ae, ce, es, rfl, Ie, st7, g7, hel, S7, t7⟩
      have E6 := Ie [q, g, w0.heap.size] (by intro i hi; simp at hi; omega)
      have hX7 := (t7.block g (heap_lt hX6') (by simp; omega)).trans hX6'
      have J7 := J6.tch t7 (by simp)
      have Q7 := Q6.tch t7 (by simp)
      have M7 := R6'.tch t7 (by simp)
      clear Ie
      obtain ⟨x0, x1, x2, x3, x4, u0, u1, u2, u3, u4⟩ := F5.of hX7
      obtain ⟨W7, hW7⟩ : ∃ W, W = w7.setCell ⟨g, 4, none⟩ (.slice ae es.length ce) := ⟨_, rfl⟩
      have tW7 : Tch [g] w7 W7 := by rw [hW7]; exact (Tch.refl [g] w7).setCell (.inl (by simp)) _
      have bW7 : W7.heap[g]? = some (.cells #[.string ⟨nm.toArray⟩, .slice af fs.length cf, .slice ai xs.length ci, .slice am ms.length cm, .slice ae es.length ce] 27 (0, 0)) := by rw [hW7]; exact box_setc hX7 4 _
      have S8 : RSt 89 W7 q [row2, g] st7 := S7.tch tW7 (by simp; omega) (by simp)
      have J8 : RInts W7 [] (.slice af fs.length cf) fs := (J7.tch tW7 (by simp)).mono (by simp)
      have Q8 : RImps W7 [] (.slice ai xs.length ci) xs := (Q7.tch tW7 (by simp)).mono (by simp)
      have M8 : RMths W7 [] (.slice am ms.length cm) ms := (M7.tch tW7 (by simp)).mono (by simp)
      have E8 : RInts W7 [] (.slice ae es.length ce) es := (E6.tch tW7 (by simp)).mono (by simp)
      have JZ := J7.tch tW7 (by simp)
      have QZ := Q7.tch tW7 (by simp)
      have MZ := M7.tch tW7 (by simp)
      have EZ := E6.tch tW7 (by simp)
      go_upto_region 36 with fail
      rw [← hW7]
      clear hW7 x0 x1 x2 x3 x4 u0 u1 u2 u3 u4
      have T7 : Tch [q] y W7 := (T6.more t7 (by simp)).more tW7 (by simp; omega)
      have TW : Tch [] w0 W7 := twy.trans T7 (by simp) (fun i hlt hi => by simp at hi; omega)
      have GI := Lib.hid (Got.mkImg g1 g2 gi gm g7)
      have hR7 : W7.heap[w0.heap.size]? = some (.cells #[.string ⟨#[]⟩, .slice none 0 0, .slice none 0 0, .slice none 0 0, .slice none 0 0] 27 (0, 0)) := (T7.block w0.heap.size (heap_lt hRy) (by simp; omega)).trans hRy
      have hN7 : W7.heap[(w0.heap.size + 1)]? = some (.cells #[.string ⟨#[]⟩, .slice none 0 0, .slice none 0 0, .slice none 0 0, .slice none 0 0] 27 (0, 0)) := (T7.block (w0.heap.size + 1) (heap_lt hNy) (by simp; omega)).trans hNy
      clear S6 S7 J6 Q6 R6' E6 J7 Q7 M7 hX7 hX6' g1 g2 gi gm g7 t7 tW7 T6
      cases st7 with
      | error e =>
        obtain rfl := S8.e7
        have hlk : W7.cell? ⟨q, 1, none⟩ = some (.bool true) := S8.lackC
        have HRI := Lib.hid (HE.out 7 (Got.to_err GI.out))
        obtain ⟨a0, a1, a2, a3, a4, v0, v1, v2, v3, v4⟩ := F5.of (hR7)
        have hNc := cells_of_heap (hN7)
        go_wp2_with (first | (refine wpList_load_agg rfl 27 (.tmp 4) rfl ⟨(w0.heap.size + 1), 0, none⟩ rfl #[.string ⟨#[]⟩, .slice none 0 0, .slice none 0 0, .slice none 0 0, .slice none 0 0] _ hNc Tryz.underlying27 rfl (by kernel_rfl) ?_) | fail)
        refine bodyPost_ret (v := .tuple #[.agg #[.string ⟨#[]⟩, .slice none 0 0, .slice none 0 0, .slice none 0 0, .slice none 0 0], .int .i64 7]) (by simp [results, Tryz.results15, go_sem, a0, a1, a2, a3, a4, v0, v1, v2, v3, v4]) rfl ?_
        rw [HRI.out]
        obtain ⟨n1, n2, n3, n4, n5⟩ := hno ((((((W7.setCell ⟨w0.heap.size, 0, none⟩ (.string ⟨#[]⟩)).setCell ⟨w0.heap.size, 1, none⟩ (.slice none 0 0)).setCell ⟨w0.heap.size, 2, none⟩ (.slice none 0 0)).setCell ⟨w0.heap.size, 3, none⟩ (.slice none 0 0)).setCell ⟨w0.heap.size, 4, none⟩ (.slice none 0 0)))
        exact ⟨_, _, _, _, rfl, n1, n2, n3, n4, n5, (((((TW.setCell (.inr hw0) _).setCell (.inr hw0) _).setCell (.inr hw0) _).setCell (.inr hw0) _).setCell (.inr hw0) _)⟩
      | ok lr =>
        have hlk : W7.cell? ⟨q, 1, none⟩ = some (.bool false) := S8.lackC
        obtain ⟨aq, cq, hq0⟩ := S8.restC
        have HRD := Lib.hid (HK.out _ _ (Got.to_ok GI.out))
        have hZI : ImgZ ⟨nm, fs, xs, ms, es⟩ := (sat_img _ _ _ (hbt.drop 5) (Got.to_ok GI.out)).1
        have hRt := rf_Right W7 ⟨nm, fs, xs, ms, es⟩ _ _ _ _ J8 Q8 M8 E8 hZI (fun nm w' h16 t' => hV nm w' h16 (TW.then t'))
        clear J8 Q8 M8 E8 S8
        by_cases hl0 : lr = []
        · subst hl0
          have hcW := cells_of_heap bW7
          cases hB : imgB (⟨nm, fs, xs, ms, es⟩ : Img)
          · rw [hB] at hRt
            have HRI := Lib.hid (show readImg b0 = (noImg, 5) by rw [HRD.out, if_pos (.inr hB)])
            clear hB
            go_wp2_with (first | (refine wpList_load_agg_w (by rfl) 27 (.tmp 7) rfl ⟨g, 0, none⟩ rfl #[.string ⟨nm.toArray⟩, .slice af fs.length cf, .slice ai xs.length ci, .slice am ms.length cm, .slice ae es.length ce] _ hcW Tryz.underlying27 rfl (by kernel_rfl) ?_) | fail)
            refine hRt.mono ?_
            rintro e w8 ⟨rfl, t8⟩
            have hR8 := (t8.block w0.heap.size (heap_lt hR7) (by simp)).trans hR7
            have hN8 := (t8.block (w0.heap.size + 1) (heap_lt hN7) (by simp)).trans hN7
            have T8 := TW.then t8
            clear hcW
            obtain ⟨a0, a1, a2, a3, a4, v0, v1, v2, v3, v4⟩ := F5.of (hR8)
            have hNc := cells_of_heap (hN8)
            go_wp2_with (first | (refine wpList_load_agg rfl 27 (.tmp 4) rfl ⟨(w0.heap.size + 1), 0, none⟩ rfl #[.string ⟨#[]⟩, .slice none 0 0, .slice none 0 0, .slice none 0 0, .slice none 0 0] _ hNc Tryz.underlying27 rfl (by kernel_rfl) ?_) | fail)
            refine bodyPost_ret (v := .tuple #[.agg #[.string ⟨#[]⟩, .slice none 0 0, .slice none 0 0, .slice none 0 0, .slice none 0 0], .int .i64 5]) (by simp [results, Tryz.results15, go_sem, a0, a1, a2, a3, a4, v0, v1, v2, v3, v4]) rfl ?_
            rw [HRI.out]
            obtain ⟨n1, n2, n3, n4, n5⟩ := hno ((((((w8.setCell ⟨w0.heap.size, 0, none⟩ (.string ⟨#[]⟩)).setCell ⟨w0.heap.size, 1, none⟩ (.slice none 0 0)).setCell ⟨w0.heap.size, 2, none⟩ (.slice none 0 0)).setCell ⟨w0.heap.size, 3, none⟩ (.slice none 0 0)).setCell ⟨w0.heap.size, 4, none⟩ (.slice none 0 0)))
            exact ⟨_, _, _, _, rfl, n1, n2, n3, n4, n5, (((((T8.setCell (.inr hw0) _).setCell (.inr hw0) _).setCell (.inr hw0) _).setCell (.inr hw0) _).setCell (.inr hw0) _)⟩
          · rw [hB] at hRt
            have HRI := Lib.hid (show readImg b0 = (⟨nm, fs, xs, ms, es⟩, 0) by rw [HRD.out, if_neg (by simp [hB])])
            clear hB
            go_wp2_with (first | (refine wpList_load_agg_w (by rfl) 27 (.tmp 7) rfl ⟨g, 0, none⟩ rfl #[.string ⟨nm.toArray⟩, .slice af fs.length cf, .slice ai xs.length ci, .slice am ms.length cm, .slice ae es.length ce] _ hcW Tryz.underlying27 rfl (by kernel_rfl) ?_) | fail)
            refine hRt.mono ?_
            rintro e w8 ⟨rfl, t8⟩
            have hR8 := (t8.block w0.heap.size (heap_lt hR7) (by simp)).trans hR7
            have hX8 := (t8.block g (heap_lt bW7) (by simp)).trans bW7
            have hcX := cells_of_heap hX8
            have T8 := TW.then t8
            obtain ⟨a0, a1, a2, a3, a4, v0, v1, v2, v3, v4⟩ := F5.of hR8
            clear hcW
            go_wp2_with (first | (refine wpList_load_agg rfl 27 (.tmp 7) rfl ⟨g, 0, none⟩ rfl #[.string ⟨nm.toArray⟩, .slice af fs.length cf, .slice ai xs.length ci, .slice am ms.length cm, .slice ae es.length ce] _ hcX Tryz.underlying27 rfl (by kernel_rfl) ?_) | fail)
            refine bodyPost_ret (v := .tuple #[.agg #[.string ⟨nm.toArray⟩, .slice af fs.length cf, .slice ai xs.length ci, .slice am ms.length cm, .slice ae es.length ce], .int .i64 0]) (by simp [results, Tryz.results15, go_sem, a0, a1, a2, a3, a4, v0, v1, v2, v3, v4]) rfl ?_
            have TR : Tch [w0.heap.size] w8 (((((w8.setCell ⟨w0.heap.size, 0, none⟩ (.string ⟨nm.toArray⟩)).setCell ⟨w0.heap.size, 1, none⟩ (.slice af fs.length cf)).setCell ⟨w0.heap.size, 2, none⟩ (.slice ai xs.length ci)).setCell ⟨w0.heap.size, 3, none⟩ (.slice am ms.length cm)).setCell ⟨w0.heap.size, 4, none⟩ (.slice ae es.length ce)) := ((((((Tch.refl [w0.heap.size] w8).setCell (.inl (by simp)) _).setCell (.inl (by simp)) _).setCell (.inl (by simp)) _).setCell (.inl (by simp)) _).setCell (.inl (by simp)) _)
            rw [HRI.out]
            exact ⟨_, _, _, _, rfl, ((JZ.tch t8 (by simp)).tch TR (by simp)).mono (by simp), ((QZ.tch t8 (by simp)).tch TR (by simp)).mono (by simp), ((MZ.tch t8 (by simp)).tch TR (by simp)).mono (by simp), ((EZ.tch t8 (by simp)).tch TR (by simp)).mono (by simp), hZI, T8.trans TR (by simp) (fun i hlt hi => by simp at hi; omega)⟩
        · have hl1 : 0 < lr.length := by cases lr with
            | nil => exact absurd rfl hl0
            | cons x l => simp
          have hd0 : decide ((0 : Int) < (lr.length : Int)) = true := decide_eq_true (by omega)
          have HRI := Lib.hid (show readImg b0 = (noImg, 5) by rw [HRD.out, if_pos (.inl hl0)])
          obtain ⟨a0, a1, a2, a3, a4, v0, v1, v2, v3, v4⟩ := F5.of (hR7)
          have hNc := cells_of_heap (hN7)
          go_wp2_with (first | (refine wpList_load_agg rfl 27 (.tmp 4) rfl ⟨(w0.heap.size + 1), 0, none⟩ rfl #[.string ⟨#[]⟩, .slice none 0 0, .slice none 0 0, .slice none 0 0, .slice none 0 0] _ hNc Tryz.underlying27 rfl (by kernel_rfl) ?_) | fail)
          refine bodyPost_ret (v := .tuple #[.agg #[.string ⟨#[]⟩, .slice none 0 0, .slice none 0 0, .slice none 0 0, .slice none 0 0], .int .i64 5]) (by simp [results, Tryz.results15, go_sem, a0, a1, a2, a3, a4, v0, v1, v2, v3, v4]) rfl ?_
          rw [HRI.out]
          obtain ⟨n1, n2, n3, n4, n5⟩ := hno ((((((W7.setCell ⟨w0.heap.size, 0, none⟩ (.string ⟨#[]⟩)).setCell ⟨w0.heap.size, 1, none⟩ (.slice none 0 0)).setCell ⟨w0.heap.size, 2, none⟩ (.slice none 0 0)).setCell ⟨w0.heap.size, 3, none⟩ (.slice none 0 0)).setCell ⟨w0.heap.size, 4, none⟩ (.slice none 0 0)))
          exact ⟨_, _, _, _, rfl, n1, n2, n3, n4, n5, (((((TW.setCell (.inr hw0) _).setCell (.inr hw0) _).setCell (.inr hw0) _).setCell (.inr hw0) _).setCell (.inr hw0) _)⟩
end Go.Proofs.YtapephelfijcbaaGreatDoor
