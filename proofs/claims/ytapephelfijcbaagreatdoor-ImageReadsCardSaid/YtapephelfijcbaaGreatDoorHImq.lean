/-
  CONTRACTS: image: an applet's parts, read. Conditions: the reader's bytes lie in blocks that nobody turns.
-/
import Derived.Test.YtapephelfijcbaaGreatDoorHImr
import Derived.Test.YtapephelfijcbaaGreatDoorHCodeP
import Derived.Test.YtapephelfijcbaaGreatDoorHRead
namespace Go.Tcn
open Go.RowKit
set_option linter.unusedVariables false
set_option linter.unusedSimpArgs false
/-- Reading's state: what is left, or the error. -/
abbrev St := Except Int (List Int)
/-- A reading of P led from one state to the next, and gave x. -/
def Got {α : Type} (P : Par α) (st : St) (x : α) (st' : St) : Prop :=
  match st with
  | .error e => st' = .error e
  | .ok l => match P l with
    | .ok (y, r) => x = y ∧ st' = .ok r
    | .error e => st' = .error e
theorem Got.ret {α : Type} (x : α) (st : St) : Got (Par.ret x) st x st := by
  cases st <;> simp [Got, Par.ret]
theorem Got.bind {α β : Type} {P : Par α} {Q : α → Par β} {st st1 st2 : St} {x : α} {y : β} (h : Got P st x st1) (k : Got (Q x) st1 y st2) : Got (P.bind Q) st y st2 := by
  cases st with
  | error e =>
    simp only [Got] at h
    subst h
    exact k
  | ok l =>
    simp only [Got] at h ⊢
    cases hp : P l with
    | error e =>
      rw [hp] at h
      simp only at h
      subst h
      simp only [Got] at k
      unfold Par.bind
      rw [hp]
      exact k
    | ok a =>
      obtain ⟨z, r⟩ := a
      rw [hp] at h
      simp only at h
      obtain ⟨rfl, rfl⟩ := h
      rw [bind_run hp]
      exact k
theorem Got.err0 {α : Type} (P : Par α) (e : Int) (y : α) : Got P (.error e) y (.error e) := rfl
/-- The parts that an error spares. -/
theorem Got.rep {α : Type} {P : Par α} {st : St} {xs : List α} {e : Int} {j n : Nat} (h : Got (repP P j) st xs (.error e)) (hj : j ≤ n) : Got (repP P n) st xs (.error e) := by
  induction n with
  | zero =>
    obtain rfl : j = 0 := by omega
    exact h
  | succ n ih =>
    by_cases hn : j ≤ n
    · have h1 := ih hn
      cases st with
      | error e' => exact h1
      | ok l =>
        simp only [Got] at h1 ⊢
        rw [show repP P (n + 1) = (repP P n).bind (fun xs => P.bind fun x => .ret (xs ++ [x])) from rfl]
        unfold Par.bind
        cases hq : repP P n l with
        | error e' => rw [hq] at h1; simpa using h1
        | ok a => rw [hq] at h1; simp at h1
    · obtain rfl : j = n + 1 := by omega
      exact h
def effE (w : Int) (k : Bool) : Int := if w ≠ 0 then w else if k then 7 else 0
/-- An applet's parts at p, with a reader at q; its bytes lie in none of L. -/
structure PSt (TP TR : TypeId) (w : World) (p q : Nat) (L : List Nat) (st : St) : Prop where
  ex : ∃ l k wr, w.heap[p]? = some (.cells #[.pointer (some ⟨q, 0, none⟩), .int .i64 wr] TP (0, 0)) ∧ Rd w TR q L l k ∧ l.length ≤ 8192 ∧ p ≠ q ∧ (st = .ok l ∧ k = false ∧ wr = 0 ∨ ∃ e, st = .error e ∧ e ≠ 0 ∧ effE wr k = e)
theorem PSt.tch {TP TR : TypeId} {w w' : World} {p q : Nat} {L L' : List Nat} {st : St} (h : PSt TP TR w p q L st) (t : Tch L' w w') (hp : p ∉ L') (hq : q ∉ L') (hl : ∀ i ∈ L', i < w.heap.size → i ∈ L) : PSt TP TR w' p q L st := by
  obtain ⟨l, k, wr, h1, h2, h3, h4, h5⟩ := h.ex
  exact ⟨l, k, wr, by rw [t.block p (heap_lt h1) hp]; exact h1, h2.tch t hq hl, h3, h4, h5⟩
theorem PSt.mono {TP TR : TypeId} {w : World} {p q : Nat} {L L' : List Nat} {st : St} (h : PSt TP TR w p q L st) (hl : ∀ i ∈ L', i < w.heap.size → i ∈ L) : PSt TP TR w p q L' st := by
  obtain ⟨l, k, wr, h1, h2, h3, h4, h5⟩ := h.ex
  exact ⟨l, k, wr, h1, h2.mono hl, h3, h4, h5⟩
theorem PSt.lt {TP TR : TypeId} {w : World} {p q : Nat} {L : List Nat} {st : St} (h : PSt TP TR w p q L st) : p < w.heap.size ∧ q < w.heap.size ∧ p ≠ q := by
  obtain ⟨l, k, wr, h1, h2, h3, h4, h5⟩ := h.ex
  exact ⟨heap_lt h1, h2.lt, h4⟩
theorem PSt.cell {TP TR : TypeId} {w : World} {p q : Nat} {L : List Nat} {st : St} (h : PSt TP TR w p q L st) : w.cell? ⟨p, 0, none⟩ = some (.pointer (some ⟨q, 0, none⟩)) := by
  obtain ⟨l, k, wr, h1, _⟩ := h.ex
  simp [World.cell?, h1]
/-- What a parts' reader does to its state: one byte. -/
theorem u8_got {l : List Int} {k : Bool} {wr : Int} {st : St} (hs : st = .ok l ∧ k = false ∧ wr = 0 ∨ ∃ e, st = .error e ∧ e ≠ 0 ∧ effE wr k = e) (hb : Byt l) :
    0 ≤ beN (rdOut l k 1) ∧ beN (rdOut l k 1) ≤ 255 ∧ ∃ st' : St, Got u8P st (beN (rdOut l k 1)) st' ∧ (st' = .ok (rdRest l k 1) ∧ (!rdOk l k 1) = false ∧ wr = 0 ∨ ∃ e, st' = .error e ∧ e ≠ 0 ∧ effE wr (!rdOk l k 1) = e) := by
  have hB := beN_lt (rdOut l k 1) (by unfold rdOut; split; exact hb.take _; exact Byt.nil)
  have hlen : (rdOut l k 1).length ≤ 1 := by unfold rdOut; split <;> simp; omega
  have hpow : (256 : Int) ^ (rdOut l k 1).length ≤ 256 := by
    match h : (rdOut l k 1).length, hlen with
    | 0, _ => decide
    | 1, _ => decide
  refine ⟨hB.1, by omega, ?_⟩
  rcases hs with ⟨rfl, rfl, rfl⟩ | ⟨e, rfl, he, hf⟩
  · cases l with
    | nil => exact ⟨.error 7, rfl, .inr ⟨7, rfl, by decide, rfl⟩⟩
    | cons x l =>
      have hok : rdOk (x :: l) false 1 = true := by simp [rdOk]; omega
      refine ⟨.ok l, ?_, .inl ⟨?_, ?_, rfl⟩⟩
      · simp only [Got, u8P]
        refine ⟨?_, trivial⟩
        unfold rdOut
        rw [if_pos hok]
        simp [beN]
      · unfold rdRest
        rw [if_pos hok]
        rfl
      · rw [hok]; rfl
  · refine ⟨.error e, rfl, .inr ⟨e, rfl, he, ?_⟩⟩
    by_cases hw : wr = 0
    · subst hw
      cases k with
      | true => rw [← hf]; rfl
      | false => exact absurd hf.symm he
    · rw [← hf]
      unfold effE
      rw [if_pos hw, if_pos hw]
theorem rdRest_le' (l : List Int) (k : Bool) (n : Int) : (rdRest l k n).length ≤ l.length := by unfold rdRest; split <;> simp
def errB : St → Bool
  | .ok _ => false
  | .error _ => true
/-- A box of cells, the c-th a slice of the call's own. -/
structure OB (w : World) (T E : TypeId) (sz g c row : Nat) (cs : Array Value) (n : Nat) (xs : List Value) : Prop where
  ex : ∃ v, w.heap[g]? = some (.cells (cs.setIfInBounds c v) T (0, 0)) ∧ w.ownsRow 0 E sz v n xs ∧ row = v.ownBlock.getD g ∧ v.ownBlock ≠ some g
theorem OB.lt {w : World} {T E : TypeId} {sz g c row : Nat} {cs : Array Value} {n : Nat} {xs : List Value} (h : OB w T E sz g c row cs n xs) : g < w.heap.size := by
  obtain ⟨v, hv, _⟩ := h.ex
  exact heap_lt hv
theorem OB.row_lt {w : World} {T E : TypeId} {sz g c row : Nat} {cs : Array Value} {n : Nat} {xs : List Value} (h : OB w T E sz g c row cs n xs) : row < w.heap.size := by
  have hl := h.lt
  obtain ⟨v, hv, ho, hr, hn⟩ := h.ex
  rw [hr]
  cases hb : v.ownBlock with
  | none => exact hl
  | some k => exact (World.ownsRow.lt ho k hb).2
theorem OB.tch {w w' : World} {T E : TypeId} {sz g c row : Nat} {cs : Array Value} {n : Nat} {xs : List Value} {L : List Nat} (h : OB w T E sz g c row cs n xs) (t : Tch L w w') (hg : g ∉ L) (hr : row ∉ L) : OB w' T E sz g c row cs n xs := by
  have hlt := h.lt
  obtain ⟨v, hv, ho, hro, hn⟩ := h.ex
  refine ⟨v, by rw [t.block g hlt hg]; exact hv, ownsRow_tch ho t (fun k hk => ?_), hro, hn⟩
  rw [hk] at hro
  simp at hro
  exact hro ▸ hr
theorem OB.nil (w : World) (T E : TypeId) (sz c : Nat) (cs : Array Value) : OB (w.alloc (.cells (cs.setIfInBounds c (.slice none 0 0)) T)) T E sz w.heap.size c w.heap.size cs 0 [] :=
  ⟨.slice none 0 0, heap_alloc_new w _, World.ownsRow_nil _ _ _ _, rfl, by simp [Value.ownBlock]⟩
theorem OB.grow {w w0 w1 : World} {T E : TypeId} {sz g c : Nat} {cs : Array Value} {xs news : List Value} {v0 v1 : Value} (hv : w.heap[g]? = some (.cells (cs.setIfInBounds c v0) T (0, 0))) (hne : v0.ownBlock ≠ some g)
    (h0 : Tch [] w w0) (hg : w0.grownBy w1 v0.ownBlock) (n : Nat) (ho : w1.ownsRow 0 E sz v1 n (xs ++ news)) (hat : v1.ownBlock = v0.ownBlock ∨ v1.ownBlock = some w0.heap.size) :
    ∃ row', OB (w1.setCell ⟨g, c, none⟩ v1) T E sz g c row' cs n (xs ++ news) ∧ (row' = v0.ownBlock.getD g ∨ w.heap.size ≤ row') ∧ Tch [g, v0.ownBlock.getD g] w (w1.setCell ⟨g, c, none⟩ v1) := by
  have hlt := heap_lt hv
  have hs := h0.size
  have hp1 : w1.heap[g]? = some (.cells (cs.setIfInBounds c v0) T (0, 0)) := by
    rw [hg.block g (by omega) (fun e => hne e.symm), h0.block g hlt (by simp)]; exact hv
  have hne1 : v1.ownBlock ≠ some g := by
    rcases hat with h | h
    · rw [h]; exact hne
    · rw [h]; simp; omega
  refine ⟨v1.ownBlock.getD g, ⟨v1, ?_, ?_, rfl, hne1⟩, ?_, ?_⟩
  · simp [World.setCell, Array.getElem?_modify, hp1]
  · exact ownsRow_setCell_other ho hne1 _
  · rcases hat with h | h
    · left; rw [h]
    · right; rw [h]; simpa using hs
  · refine Tch.setCell ((h0.mono (M := [g, v0.ownBlock.getD g]) (by simp)).grown hg (fun k hk => ?_)) (by simp) _
    left; rw [hk]; simp
end Go.Tcn
namespace Go.Proofs.YtapephelfijcbaaGreatDoor
open Go.RowKit Go.Tcn
set_option linter.unusedVariables false
set_option linter.unusedSimpArgs false
set_option maxRecDepth 100000 in
set_option maxHeartbeats 4000000 in
theorem rd_U8 (w : World) (p q : Nat) (L : List Nat) (st : St) (h : PSt 80 116 w p q L st) :
    Calls Tryz.prog 94 #[.pointer (some ⟨q, 0, none⟩)] w fun e w' => ∃ v, e = .returned (.int .i64 v) ∧ 0 ≤ v ∧ v ≤ 255 ∧ ∃ st', Got u8P st v st' ∧ PSt 80 116 w' p q L st' ∧ Tch [q] w w' := by
  obtain ⟨l, k, wr, h1, h2, h3, h4, h5⟩ := h.ex
  obtain ⟨g1, g2, st', g3, g4⟩ := u8_got h5 h2.byt
  refine (oct_RU8 w q L l k h2 (by omega)).mono ?_
  rintro e w' ⟨rfl, hr, t⟩
  have := rdRest_le' l k 1
  exact ⟨_, rfl, g1, g2, st', g3, ⟨_, _, wr, by rw [t.block p (heap_lt h1) (by simpa using h4)]; exact h1, hr, by omega, h4, g4⟩, t⟩
set_option maxRecDepth 100000 in
set_option maxHeartbeats 4000000 in
theorem im_bad (w : World) (p q : Nat) (L : List Nat) (st : St) (h : PSt 80 116 w p q L st) (hL : p ∈ L) :
    Calls Tryz.prog 55 #[.pointer (some ⟨p, 0, none⟩)] w fun e w' => e = .returned (.bool (errB st)) ∧ PSt 80 116 w' p q L st ∧ Tch [p] w w' := by
  obtain ⟨l, k, wr, h1, h2, h3, h4, h5⟩ := h.ex
  have c0 : w.cell? ⟨p, 0, none⟩ = some (.pointer (some ⟨q, 0, none⟩)) := by simp [World.cell?, h1]
  have c1 : w.cell? ⟨p, 1, none⟩ = some (.int .i64 wr) := by simp [World.cell?, h1]
  have f1 : w.frozen? ⟨p, 1, none⟩ = false := by simp [World.frozen?, h1]
  have hlk := oct_Lack w q L l k h2
  by_cases hw : wr = 0
  · subst hw
    cases k
    · have he : errB st = false := by
        rcases h5 with ⟨rfl, _, _⟩ | ⟨e, rfl, he, hf⟩
        · rfl
        · exact absurd hf.symm he
      go_enter Tryz.func55, Tryz.ntmps55
      go_wp2_with fail
      refine hlk.mono ?_
      rintro e w1 ⟨rfl, rfl⟩
      go_wp2_with fail
      go_ret
      exact ⟨by rw [he]; rfl, h, Tch.refl _ _⟩
    · have he : errB st = true := by
        rcases h5 with ⟨_, hk, _⟩ | ⟨e, rfl, he, hf⟩
        · cases hk
        · rfl
      have hP : PSt 80 116 (w.setCell ⟨p, 1, none⟩ (.int .i64 7)) p q L st := by
        have t : Tch [p] w (w.setCell ⟨p, 1, none⟩ (.int .i64 7)) := (Tch.refl _ _).setCell (.inl (by simp)) _
        refine ⟨l, true, 7, setCell_two_1 h1, h2.tch t (by simp; omega) (fun i hi _ => by simp at hi; subst hi; exact hL), h3, h4, .inr ?_⟩
        rcases h5 with ⟨_, hk, _⟩ | ⟨e, rfl, he, hf⟩
        · cases hk
        · exact ⟨e, rfl, he, hf⟩
      go_enter Tryz.func55, Tryz.ntmps55
      go_wp2_with fail
      refine hlk.mono ?_
      rintro e w1 ⟨rfl, rfl⟩
      go_wp2_with fail
      go_ret
      exact ⟨by rw [he]; rfl, hP, (Tch.refl _ _).setCell (.inl (by simp)) _⟩
  · have he : errB st = true := by
      rcases h5 with ⟨_, _, h0⟩ | ⟨e, rfl, he, hf⟩
      · exact absurd h0 hw
      · rfl
    have hb : (wr == 0) = false := beq_eq_false_iff_ne.2 hw
    have hb2 : (wr != 0) = true := bne_iff_ne.2 hw
    go_enter Tryz.func55, Tryz.ntmps55
    go_wp2_with fail
    go_ret
    exact ⟨by rw [he]; rfl, h, Tch.refl _ _⟩
set_option maxRecDepth 100000 in
set_option maxHeartbeats 4000000 in
theorem im_many {α : Type} (P : Par α) (F : FuncId) (caps : Array Value) (hF : ∀ w, (callFunc F caps).run Tryz.prog w = .ok (.enter F caps) w) (p q : Nat) (J : World → List α → St → Prop)
    (hJ : ∀ W xs st, J W xs st → ∃ L, p ∈ L ∧ PSt 80 116 W p q L st ∧ ∀ W' st', PSt 80 116 W' p q L st' → Tch [p, q] W W' → J W' xs st')
    (h1 : ∀ W xs l, J W xs (.ok l) → xs.length < 255 → Calls Tryz.prog F caps W fun e W' => e = .returned (.tuple #[]) ∧ ∃ x st', Got P (.ok l) x st' ∧ J W' (xs ++ [x]) st')
    (w : World) (st : St) (h0 : J w [] st) :
    Calls Tryz.prog 50 #[.pointer (some ⟨p, 0, none⟩), .func (.func F) #[] caps] w fun e w' => e = .returned (.tuple #[]) ∧ ∃ xs st', Got (cntP P) st xs st' ∧ xs.length ≤ 255 ∧ J w' xs st' := by
  obtain ⟨L0, hp0, hP0, hk0⟩ := hJ _ _ _ h0
  have c0 := hP0.cell
  go_enter Tryz.func50, Tryz.ntmps50
  go_wp2_with fail
  refine (rd_U8 _ p q L0 st hP0).mono ?_
  rintro e w1 ⟨v, rfl, hv0, hv1, st1, hg1, hP1, t1⟩
  have hJ1 := hk0 w1 st1 hP1 (t1.mono (fun i _ hi => by simp at hi ⊢; exact .inr hi))
  clear c0 hP0 hk0 hP1 t1 h0
  go_wp2_with fail
  go_loopw [4] (fun n wz => ∃ (j : Nat) (xs : List α) (st' : St), (j : Int) ≤ v ∧ n = .int .i64 (v - j) ∧ xs.length = j ∧ Got (repP P j) st1 xs st' ∧ J wz xs st') (fun n _ => (intOf n).toNat)
  case atStart => exact ⟨0, [], st1, by omega, by simp, rfl, Got.ret _ _, hJ1⟩
  case round =>
    obtain ⟨j, xs, st2, hj, rfl, hxl, hg2, hJ2⟩ := hrel
    clear hJ1
    by_cases hjv : (j : Int) = v
    · have hd : v - (j : Int) = 0 := by omega
      rw [hd]
      go_wp2_with fail
      go_end0
      refine ⟨rfl, xs, st2, ?_, by omega, hJ2⟩
      have : v.toNat = j := by omega
      refine Got.bind hg1 ?_
      rw [this]; exact hg2
    · have hd : decide (0 < v - (j : Int)) = true := decide_eq_true (by omega)
      have hd2 : (0 : Int) < v - (j : Int) := by omega
      obtain ⟨L1, hp1, hP1, hk1⟩ := hJ _ _ _ hJ2
      go_wp2_with fail
      refine (im_bad _ p q L1 st2 hP1 hp1).mono ?_
      rintro e w2 ⟨rfl, hP2, t2⟩
      have hJ3 := hk1 w2 st2 hP2 (t2.mono (fun i _ hi => by simp at hi ⊢; exact .inl hi))
      cases st2 with
      | error e =>
        go_wp2_with fail
        go_end0
        refine ⟨rfl, xs, .error e, ?_, by omega, hJ3⟩
        refine Got.bind hg1 ?_
        exact Got.rep hg2 (by omega)
      | ok l =>
        have hone := h1 w2 xs l hJ3 (by omega)
        have hw : wrap64 (v - (j : Int) - 1) = v - (j : Int) - 1 := IntWalk.wrap64_in _ (by omega)
        go_wp2_with fail
        refine hone.mono ?_
        rintro e w3 ⟨rfl, x, st3, hg3, hJ4⟩
        go_wp2_with fail
        go_roundw
        case rel => exact ⟨j + 1, xs ++ [x], st3, by omega, by go_num, by simp; omega, Got.bind hg2 (Got.bind hg3 (Got.ret _ _)), hJ4⟩
        case measure => simp [intOf]; omega
theorem info_intq : (Tryz.prog.info? 3).map (fun i => (i.zero, i.size, i.bytes)) = some (some (.int .i64 0), 1, 8) := by kernel_rfl
set_option maxRecDepth 100000 in
set_option maxHeartbeats 4000000 in
theorem im_list1 (w : World) (p q g b row : Nat) (L : List Nat) (st : St) (xs : List Int) (h : PSt 80 116 w p q (row :: g :: L) st) (ho : OB w 23 3 1 g 0 row #[.slice none 0 0] xs.length (ints xs)) (hb : w.cell? ⟨b, 0, none⟩ = some (.pointer (some ⟨p, 0, none⟩)))
    (hd : b ≠ p ∧ b ≠ q ∧ b ≠ g ∧ g ≠ p ∧ g ≠ q ∧ row ≠ p ∧ row ≠ q ∧ row ≠ b) (hx : xs.length ≤ 255) :
    Calls Tryz.prog 95 #[.pointer (some ⟨g, 0, none⟩), .pointer (some ⟨b, 0, none⟩)] w fun e w' => e = .returned (.tuple #[]) ∧ ∃ v st' row', Got u8P st v st' ∧ PSt 80 116 w' p q (row' :: g :: L) st' ∧ OB w' 23 3 1 g 0 row' #[.slice none 0 0] (xs ++ [v]).length (ints (xs ++ [v])) ∧ (row' = row ∨ w.heap.size ≤ row') ∧ Tch [q, g, row] w w' := by
  obtain ⟨i0, hi, hz0, hz1, hz2⟩ := info_parts info_intq
  obtain ⟨d1, d2, d3, d4, d5, d6, d7, d8⟩ := hd
  have hlt := h.lt
  have hpc := h.cell
  obtain ⟨v0, hv0, hown, hrow, hne⟩ := ho.ex
  have hglt := heap_lt hv0
  have hblt := cell_lt hb
  have hrlt := ho.row_lt
  have c0 : w.drew.cell? ⟨g, 0, none⟩ = some v0 := by show w.cell? _ = _; simp [World.cell?, hv0]
  have cb : w.drew.cell? ⟨b, 0, none⟩ = some (.pointer (some ⟨p, 0, none⟩)) := hb
  have cp : w.drew.cell? ⟨p, 0, none⟩ = some (.pointer (some ⟨q, 0, none⟩)) := hpc
  have hbnd : xs.length + 1 ≤ 9223372036854775807 ∧ (xs.length + 1) * 8 ≤ 140737488355328 := by omega
  have hnq : ∀ k, v0.ownBlock = some k → k ∉ [q] := fun k hk => by
    rw [hk] at hrow; simp at hrow; simp; omega
  have hP0 : PSt 80 116 w.drew p q (row :: g :: L) st := h.tch (Tch.refl [] w).drew (by simp) (by simp) (by simp)
  go_enter Tryz.func95, Tryz.ntmps95
  go_wp2_with fail
  go_region_law (first | (refine step_append_any _ rfl (.tmp 2) (.tmp 8) 23 rfl 3 i0 (.int .i64 0) 1 8 Tryz.underlying23 hi hz0 hz1 hz2 rfl (by decide) v0 xs.length (ints xs) rfl hown2 [] _ 1 [.int .i64 v] rfl hsrc rfl h1c hbnd ?_; intro ao cap w3 hown3 hgrow hat; have c3 : w3.cell? ⟨g, 0, none⟩ = some v0 := (hgrow.cell_far ⟨g, 0, none⟩ hg2 (fun e => hne e.symm)).trans c2; have f3 : w3.frozen? ⟨g, 0, none⟩ = false := (hgrow.frozen_far ⟨g, 0, none⟩ hg2 (fun e => hne e.symm)).trans f2) | (go_simp; go_at_call 94; refine (rd_U8 _ p q _ st hP0).mono ?_; rintro e w1 ⟨v, rfl, hv1, hv2, st', hgot, hP1, t0⟩; have t1 : Tch [q] w w1 := ((Tch.refl [q] w).drew).trans t0 (fun _ _ h => h) (fun _ _ h => h); have e1 : w1.heap[g]? = some (.cells #[v0] 23 (0, 0)) := (t1.block g hglt (fun hx => d5 (List.mem_singleton.1 hx))).trans hv0; have c1 : w1.cell? ⟨g, 0, none⟩ = some v0 := (by simp [World.cell?, e1]); have hg2 : g < (w1.alloc (.cells #[.int .i64 v] 3)).heap.size := Nat.lt_of_lt_of_le (Nat.lt_of_lt_of_le hglt t1.size) (Tch.alloc (Tch.refl [] w1) _).size; have c2 : (w1.alloc (.cells #[.int .i64 v] 3)).cell? ⟨g, 0, none⟩ = some v0 := (World.cell?_alloc_past _ _ _ (heap_lt e1)).trans c1; have f2 : (w1.alloc (.cells #[.int .i64 v] 3)).frozen? ⟨g, 0, none⟩ = false := (World.frozen?_alloc_past _ _ _ (heap_lt e1)).trans (by simp [World.frozen?, e1]); have hown2 : (w1.alloc (.cells #[.int .i64 v] 3)).ownsRow 0 3 1 v0 xs.length (ints xs) := (ownsRow_tch hown t1 hnq).alloc _; have hsrc : Src (w1.alloc (.cells #[.int .i64 v] 3)) [] (.slice (some ⟨w1.heap.size, 0, none⟩) 1 1) 1 [.int .i64 v] := src_new w1 _ [] #[.int .i64 v] 3 1 1 (Tch.refl [] _) (by simp); have h1c : ∀ u ∈ [Value.int .i64 v], u.oneCell' = true := by (intro u hu; simp at hu; subst hu; rfl)))
  all_goals
    go_end0
    obtain ⟨row', o1, o2, o3⟩ := OB.grow (w := w1) (c := 0) (cs := #[.slice none 0 0]) (xs := ints xs) (news := [.int .i64 v]) e1 hne ((Tch.refl [] w1).alloc _) hgrow (xs.length + 1) hown3 hat
    rw [← hrow] at o2 o3
    have en : (xs ++ [v]).length = xs.length + 1 := by simp
    refine ⟨rfl, v, st', row', hgot, ?_, by rw [en, ints_append]; exact o1, ?_, ?_⟩
    · have h1 := hP1.mono (L' := row' :: row :: g :: L) (fun i hi hlt => by
        rcases List.mem_cons.1 hi with hi | hi
        · rcases o2 with o2 | o2
          · rw [hi, o2]; simp
          · omega
        · exact hi)
      have h2 := h1.tch o3 (by simp; omega) (by simp; omega) (fun i hi _ => by simp at hi ⊢; rcases hi with hi | hi <;> simp [hi])
      exact h2.mono (fun i hi _ => by simp at hi ⊢; rcases hi with hi | hi | hi <;> simp [hi])
    · rcases o2 with o2 | o2
      · exact .inl o2
      · exact .inr (Nat.le_trans t1.size o2)
    · exact t1.trans o3 (fun i _ hi => by simp at hi ⊢; simp [hi]) (fun i _ hi => by simp at hi ⊢; rcases hi with hi | hi <;> simp [hi])
set_option maxRecDepth 100000 in
set_option maxHeartbeats 4000000 in
theorem im_plist (w : World) (p q : Nat) (L : List Nat) (st : St) (h : PSt 80 116 w p q L st) (hp : p ∈ L) (M : List Nat) (hM : ∀ i ∈ M, i < w.heap.size) :
    Calls Tryz.prog 49 #[.pointer (some ⟨p, 0, none⟩)] w fun e w' => ∃ v xs st', e = .returned v ∧ RInts w' M v xs ∧ Got (cntP u8P) st xs st' ∧ xs.length ≤ 255 ∧ PSt 80 116 w' p q L st' ∧ Tch [p, q] w w' := by
  have hmf : ∀ (fn : Fn) (first cap : Array Value) (w : World), (Instr.makeFunc fn first cap).run Tryz.prog w = .ok (.func fn first cap) w := fun _ _ _ _ => rfl
  obtain ⟨hl1, hl2, hl3⟩ := h.lt
  obtain ⟨V, hVd⟩ : ∃ V, V = (w.alloc (.cells #[.pointer (some ⟨p, 0, none⟩)] 76)).alloc (.cells #[.slice none 0 0] 23) := ⟨_, rfl⟩
  have tV : Tch [] w V := by rw [hVd]; exact ((Tch.refl [] w).alloc _).alloc _
  have sV : V.heap.size = w.heap.size + 1 + 1 := by rw [hVd]; simp
  have cb : V.cell? ⟨w.heap.size, 0, none⟩ = some (.pointer (some ⟨p, 0, none⟩)) := by rw [hVd]; simp [go_sem]
  have hO : OB V 23 3 1 (w.heap.size + 1) 0 (w.heap.size + 1) #[.slice none 0 0] 0 [] := by
    have := OB.nil (w.alloc (.cells #[.pointer (some ⟨p, 0, none⟩)] 76)) 23 3 1 0 #[.slice none 0 0]
    rw [hVd]
    simpa using this
  have hP0 : PSt 80 116 V p q ((w.heap.size + 1) :: (w.heap.size + 1) :: L) st := (h.mono (fun i hi hlt => by
    simp at hi
    rcases hi with hi | hi
    · omega
    · exact hi)).tch tV (by simp) (by simp) (by simp)
  have hMany := im_many u8P 95 #[.pointer (some ⟨w.heap.size + 1, 0, none⟩), .pointer (some ⟨w.heap.size, 0, none⟩)] (fun _ => by kernel_rfl) p q
    (fun W xs st => ∃ row, PSt 80 116 W p q (row :: (w.heap.size + 1) :: L) st ∧ OB W 23 3 1 (w.heap.size + 1) 0 row #[.slice none 0 0] xs.length (ints xs) ∧ W.cell? ⟨w.heap.size, 0, none⟩ = some (.pointer (some ⟨p, 0, none⟩)) ∧ (row = w.heap.size + 1 ∨ V.heap.size ≤ row) ∧ Tch [p, q, w.heap.size + 1] V W)
    (fun W xs st ⟨row, j1, j2, j3, j4, j5⟩ => ⟨row :: (w.heap.size + 1) :: L, by simp [hp], j1, fun W' st' k1 k2 => ⟨row, k1, j2.tch k2 (by simp; omega) (by simp; omega), by rw [k2.cell (cell_lt j3) (by simp; omega)]; exact j3, j4, j5.trans k2 (fun _ _ x => x) (fun i _ hi => by simp at hi ⊢; rcases hi with hi | hi <;> simp [hi])⟩⟩)
    (fun W xs l ⟨row, j1, j2, j3, j4, j5⟩ hx => by
      refine (im_list1 W p q (w.heap.size + 1) w.heap.size row L (.ok l) xs j1 j2 j3 (by omega) (by omega)).mono ?_
      rintro e W' ⟨rfl, v, st', row', k1, k2, k3, k4, k5⟩
      have := j5.size
      refine ⟨rfl, v, st', k1, row', k2, k3, ?_, by omega, j5.trans k5 (fun _ _ x => x) (fun i hlt hi => by simp at hi ⊢; omega)⟩
      rw [k5.cell (cell_lt j3) (by simp; omega)]; exact j3)
    V st ⟨w.heap.size + 1, hP0, hO, cb, .inl rfl, Tch.refl _ _⟩
  go_enter Tryz.func49, Tryz.ntmps49
  go_upto_region 2 with fail
  rw [← hVd]
  clear hVd hO hP0
  go_wp2_with fail
  refine hMany.mono ?_
  rintro e w1 ⟨rfl, xs, st', hg, hxl, row, j1, j2, j3, j4, j5⟩
  obtain ⟨v, hv, hown, hrow, hne⟩ := j2.ex
  have cv : w1.cell? ⟨w.heap.size + 1, 0, none⟩ = some v := by simp [World.cell?, hv]
  clear hMany
  go_wp2_with fail
  go_ret
  refine ⟨v, xs, st', rfl, src_of_owns hown M (fun k hk hx => ?_), hg, hxl, j1.mono (fun i hi _ => by simp [hi]), ?_⟩
  · rw [hk] at hrow
    simp at hrow
    have := hM k hx
    omega
  · exact tV.trans j5 (by simp) (fun i hlt hi => by simp at hi ⊢; omega)
end Go.Proofs.YtapephelfijcbaaGreatDoor
