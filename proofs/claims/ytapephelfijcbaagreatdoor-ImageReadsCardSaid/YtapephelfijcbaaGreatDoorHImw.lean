/-
  CONTRACTS: image.Read: bytes as an applet. Conditions: utf8's tables as they are laid; sizes of 64 bits.
-/
import Derived.Test.YtapephelfijcbaaGreatDoorHImv
namespace Go.Tcn
open Go.RowKit
set_option linter.unusedVariables false
set_option linter.unusedSimpArgs false
theorem Got.to_err {α : Type} {P : Par α} {l : List Int} {x : α} {e : Int} (h : Got P (.ok l) x (.error e)) : P l = .error e := by
  simp only [Got] at h
  split at h
  · exact absurd h.2 (by simp)
  · rename_i e' he
    simp only [Except.error.injEq] at h
    rw [he, h]
theorem Got.to_ok {α : Type} {P : Par α} {l r : List Int} {x : α} (h : Got P (.ok l) x (.ok r)) : P l = .ok (x, r) := by
  simp only [Got] at h
  split at h
  · rename_i y r' he
    obtain ⟨rfl, h2⟩ := h
    simp only [Except.ok.injEq] at h2
    rw [he, h2]
  · cases h
/-- What is read satisfies. -/
def Sat {α : Type} (P : Par α) (Q : α → Prop) : Prop := ∀ l x r, Byt l → P l = .ok (x, r) → Q x ∧ Byt r
theorem sat_ret {α : Type} {x : α} {Q : α → Prop} (h : Q x) : Sat (Par.ret x) Q := fun l y r hb e => by
  obtain ⟨rfl, rfl⟩ := ret_ok e
  exact ⟨h, hb⟩
theorem sat_bind {α β : Type} {P : Par α} {F : α → Par β} {Q : α → Prop} {R : β → Prop} (h : Sat P Q) (k : ∀ x, Q x → Sat (F x) R) : Sat (P.bind F) R := fun l y r hb e => by
  obtain ⟨x, m, e1, e2⟩ := bind_ok e
  obtain ⟨q, hm⟩ := h _ _ _ hb e1
  exact k x q _ _ _ hm e2
theorem sat_u8 : Sat u8P (fun x => 0 ≤ x ∧ x ≤ 255) := fun l x r hb e => by
  obtain ⟨h1, h2⟩ := u8_inv' hb e
  rw [h1] at hb
  exact ⟨h2, hb.tail⟩
theorem sat_rep {α : Type} {P : Par α} {Q : α → Prop} (h : Sat P Q) (n : Nat) : Sat (repP P n) (fun xs => xs.length = n ∧ ∀ x ∈ xs, Q x) := by
  induction n with
  | zero => exact sat_ret ⟨rfl, by simp⟩
  | succ n ih =>
    refine sat_bind ih (fun xs hx => sat_bind h (fun x q => sat_ret ⟨by simp [hx.1], fun y hy => ?_⟩))
    rcases List.mem_append.1 hy with hy | hy
    · exact hx.2 y hy
    · simp at hy; subst hy; exact q
theorem sat_cnt {α : Type} {P : Par α} {Q : α → Prop} (h : Sat P Q) : Sat (cntP P) (fun xs => xs.length ≤ 255 ∧ ∀ x ∈ xs, Q x) :=
  sat_bind sat_u8 (fun n hn => fun l x r hb e => by
    obtain ⟨⟨h1, h2⟩, h3⟩ := sat_rep h n.toNat _ _ _ hb e
    exact ⟨⟨by omega, h2⟩, h3⟩)
theorem sat_raw (n : Nat) : Sat (rawP n) (fun _ => True) := fun l x r hb e => by
  unfold rawP at e
  split at e
  · simp only [Except.ok.injEq, Prod.mk.injEq] at e
    rw [← e.2]
    exact ⟨trivial, hb.drop _⟩
  · cases e
theorem sat_str : Sat strP (fun _ => True) := sat_bind sat_u8 (fun _ _ => sat_bind (sat_raw _) (fun _ _ => sat_ret trivial))
end Go.Tcn
namespace Go.Proofs.YtapephelfijcbaaGreatDoor
open Go.RowKit Go.Tcn
set_option linter.unusedVariables false
set_option linter.unusedSimpArgs false
theorem sat_ins : Sat insP (fun x => I6 x.b) := fun l x r hb e => by
  have e2 := ins_inv _ _ _ hb e
  rw [e2] at hb
  refine ⟨?_, hb.tail⟩
  unfold insP at e
  split at e
  · rename_i h0
    simp only [Except.ok.injEq, Prod.mk.injEq] at e
    rw [← e.1]
    show I6 (readI l false).1.2.2
    by_cases hs : rdOk l false 1 = true
    · by_cases ho : 1 ≤ beN (rdOut l false 1) ∧ beN (rdOut l false 1) ≤ 39
      · obtain ⟨a, b, r', k', he⟩ : ∃ a b r' k', opsI (beN (rdOut l false 1)) (rdRest l false 1) false = ((a, b), r', k') := ⟨_, _, _, _, rfl⟩
        have hri := readI_ok l false hs _ rfl ho a b r' k' he
        cases k'
        · rw [if_neg (by simp)] at hri
          cases hR : rightI (beN (rdOut l false 1)) a b
          · rw [hR, if_pos rfl] at hri
            rw [hri] at h0; simp at h0
          · rw [hR, if_neg (by simp)] at hri
            rw [hri]
            obtain ⟨_, _, _, _, h5, h6⟩ := rightI_facts _ a b hR
            show I6 b
            by_cases h27 : beN (rdOut l false 1) = 27
            · have := h5 h27; unfold I6; omega
            · have := h6 h27; unfold I6; omega
        · rw [if_pos rfl] at hri
          rw [hri] at h0; simp at h0
      · rw [readI_op l false hs ho] at h0; simp at h0
    · rw [readI_short l false (by simpa using hs)] at h0; simp at h0
  · cases e
theorem sat_imp : Sat impP (fun x => x.params.length ≤ 9223372036854775807) :=
  sat_bind sat_str (fun _ _ => sat_bind sat_u8 (fun _ _ => sat_bind (sat_cnt sat_u8) (fun ps h => sat_bind sat_u8 (fun _ _ => sat_ret (show ps.length ≤ _ by omega)))))
theorem sat_mth : Sat mthP MthZ :=
  sat_bind (sat_cnt sat_u8) (fun ps h1 => sat_bind sat_u8 (fun _ _ => sat_bind (sat_cnt sat_u8) (fun ls h2 => sat_bind (sat_cnt sat_ins) (fun c h3 => sat_ret ⟨Nat.le_trans h1.1 (by decide), Nat.le_trans h2.1 (by decide), Nat.le_trans h3.1 (by decide), h3.2⟩))))
theorem sat_img : Sat imgP ImgZ :=
  sat_bind sat_str (fun _ _ => sat_bind (sat_cnt sat_u8) (fun fs h1 => sat_bind (sat_cnt sat_imp) (fun is h2 => sat_bind (sat_cnt sat_mth) (fun ms h3 => sat_bind (sat_cnt sat_u8) (fun ex h4 => sat_ret ⟨Nat.le_trans h1.1 (by decide), Nat.le_trans h2.1 (by decide), h2.2, Nat.le_trans h3.1 (by decide), h3.2, Nat.le_trans h4.1 (by decide)⟩)))))
end Go.Proofs.YtapephelfijcbaaGreatDoor
namespace Go.Tcn
open Go.RowKit
set_option linter.unusedVariables false
set_option linter.unusedSimpArgs false
/-- Five cells of a block that may be written. -/
structure F5 (w : World) (g : Nat) (x0 x1 x2 x3 x4 : Value) : Prop where
  c0 : w.cell? ⟨g, 0, none⟩ = some x0
  c1 : w.cell? ⟨g, 1, none⟩ = some x1
  c2 : w.cell? ⟨g, 2, none⟩ = some x2
  c3 : w.cell? ⟨g, 3, none⟩ = some x3
  c4 : w.cell? ⟨g, 4, none⟩ = some x4
  f0 : w.frozen? ⟨g, 0, none⟩ = false
  f1 : w.frozen? ⟨g, 1, none⟩ = false
  f2 : w.frozen? ⟨g, 2, none⟩ = false
  f3 : w.frozen? ⟨g, 3, none⟩ = false
  f4 : w.frozen? ⟨g, 4, none⟩ = false
theorem F5.of {w : World} {g : Nat} {x0 x1 x2 x3 x4 : Value} {T : TypeId} (h : w.heap[g]? = some (.cells #[x0, x1, x2, x3, x4] T (0, 0))) : F5 w g x0 x1 x2 x3 x4 := by
  constructor <;> simp [World.cell?, World.frozen?, h]
/-- What a box of things reads as. -/
theorem OL.reads {α : Type} {w : World} {T E : TypeId} {sz g c row : Nat} {cs : Array Value} {M : List Nat} {R : World → List Nat → List Value → α → Prop} {xs : List α} (h : OL w T E sz g c row cs M R xs) (M' : List Nat) (hr : row ∉ M' ∨ row = g) (hR : ∀ d x, R w (row :: M) d x → R w M' d x) :
    ∃ ao cap, w.heap[g]? = some (.cells (cs.setIfInBounds c (.slice ao xs.length cap)) T (0, 0)) ∧ RL w M' sz (R w M') (.slice ao xs.length cap) xs := by
  obtain ⟨css, h1, h2, h3, h4⟩ := h.ex
  obtain ⟨v, hv, hown, hrow, hne⟩ := h3.ex
  obtain ⟨ao, cap, rfl⟩ := ownsRow_form hown
  refine ⟨ao, cap, hv, ⟨css, h1, h2, src_of_owns hown M' (fun k hk hx => ?_), fun k d x a b => hR _ _ (h4 k d x a b)⟩⟩
  rw [hk] at hrow hne
  simp at hrow hne
  rcases hr with hr | hr
  · exact hr (hrow ▸ hx)
  · omega
end Go.Tcn
namespace Go.Proofs.YtapephelfijcbaaGreatDoor
open Go.RowKit Go.Tcn
set_option linter.unusedVariables false
set_option linter.unusedSimpArgs false
set_option maxRecDepth 100000 in
set_option maxHeartbeats 4000000 in
theorem im_bad_err (w : World) (p q : Nat) (L : List Nat) (e : Int) (h : PSt 80 116 w p q L (.error e)) (hL : p ∈ L) :
    Calls Tryz.prog 55 #[.pointer (some ⟨p, 0, none⟩)] w fun en w' => en = .returned (.bool true) ∧ w'.heap[p]? = some (.cells #[.pointer (some ⟨q, 0, none⟩), .int .i64 e] 80 (0, 0)) ∧ Tch [p] w w' := by
  obtain ⟨l, k, wr, h1, h2, h3, h4, h5⟩ := h.ex
  have c0 : w.cell? ⟨p, 0, none⟩ = some (.pointer (some ⟨q, 0, none⟩)) := by simp [World.cell?, h1]
  have c1 : w.cell? ⟨p, 1, none⟩ = some (.int .i64 wr) := by simp [World.cell?, h1]
  have f1 : w.frozen? ⟨p, 1, none⟩ = false := by simp [World.frozen?, h1]
  have hlk := oct_Lack w q L l k h2
  have h6 : e ≠ 0 ∧ effE wr k = e := by
    rcases h5 with ⟨h5, _⟩ | ⟨e', he, h6⟩
    · cases h5
    · simp only [Except.error.injEq] at he
      subst he; exact h6
  by_cases hw : wr = 0
  · subst hw
    cases k
    · exact absurd h6.2.symm h6.1
    · have he : e = 7 := h6.2.symm
      subst he
      go_enter Tryz.func55, Tryz.ntmps55
      go_wp2_with fail
      refine hlk.mono ?_
      rintro e w1 ⟨rfl, rfl⟩
      go_wp2_with fail
      go_ret
      exact ⟨rfl, setCell_two_1 h1, (Tch.refl _ _).setCell (.inl (by simp)) _⟩
  · have he : e = wr := by have := h6.2; unfold effE at this; rw [if_pos hw] at this; exact this.symm
    subst he
    have hb : (e == 0) = false := beq_eq_false_iff_ne.2 hw
    have hb2 : (e != 0) = true := bne_iff_ne.2 hw
    go_enter Tryz.func55, Tryz.ntmps55
    go_wp2_with fail
    go_ret
    exact ⟨rfl, h1, Tch.refl _ _⟩
theorem rdOut_five (b : List Int) (h : 5 ≤ b.length) : rdOut b false 5 = b.take 5 ∧ rdRest b false 5 = b.drop 5 := by
  have hok : rdOk b false 5 = true := by simp [rdOk]; omega
  unfold rdOut rdRest
  rw [if_pos hok, if_pos hok]
  exact ⟨rfl, rfl⟩
set_option maxRecDepth 100000 in
set_option maxHeartbeats 16000000 in
theorem im_Read (w0 : World) (x : Value) (b0 : List Int) (L' : List Nat) (hx : Src w0 L' x b0.length (bys b0)) (hbt : Byt b0) (hbl : b0.length ≤ 140737488355328) (hV : ∀ nm w', nm.length ≤ 16 → Tch [] w0 w' → Calls Tryz.prog 77 #[.string ⟨nm.toArray⟩] w' fun e w'' => e = .returned (.bool (Lib.validD nm)) ∧ Tch [] w' w'') :
    Calls Tryz.prog 14 #[x] w0 fun e w' => ∃ vf vi vm ve, e = .returned (.tuple #[.agg #[.string ⟨(readImg b0).1.name.toArray⟩, vf, vi, vm, ve], .int .i64 (readImg b0).2]) ∧ RInts w' [] vf (readImg b0).1.fields ∧ RImps w' [] vi (readImg b0).1.imports ∧ RMths w' [] vm (readImg b0).1.methods ∧ RInts w' [] ve (readImg b0).1.exports ∧ ImgZ (readImg b0).1 ∧ Tch [] w0 w' := by
  have hmf : ∀ (fn : Fn) (first cap : Array Value) (w : World), (Instr.makeFunc fn first cap).run Tryz.prog w = .ok (.func fn first cap) w := fun _ _ _ _ => rfl
  have hno : ∀ (W : World), RInts W [] (.slice none 0 0) noImg.fields ∧ RImps W [] (.slice none 0 0) noImg.imports ∧ RMths W [] (.slice none 0 0) noImg.methods ∧ RInts W [] (.slice none 0 0) noImg.exports ∧ ImgZ noImg := fun W =>
    ⟨⟨.inl ⟨rfl, rfl, rfl⟩⟩, ⟨[], rfl, by simp, ⟨.inl ⟨rfl, rfl, rfl⟩⟩, by simp⟩, ⟨[], rfl, by simp, ⟨.inl ⟨rfl, rfl, rfl⟩⟩, by simp⟩, ⟨.inl ⟨rfl, rfl, rfl⟩⟩, by simp [ImgZ, noImg]⟩
  obtain ⟨ax, cx, rfl⟩ := Src.form hx
  obtain ⟨V, hVd⟩ : ∃ V, V = w0.alloc (.cells #[.string ⟨#[]⟩, .slice none 0 0, .slice none 0 0, .slice none 0 0, .slice none 0 0] 27) := ⟨_, rfl⟩
  have tV : Tch [] w0 V := by rw [hVd]; exact (Tch.refl [] w0).alloc _
  have hR : V.heap[w0.heap.size]? = some (.cells #[.string ⟨#[]⟩, .slice none 0 0, .slice none 0 0, .slice none 0 0, .slice none 0 0] 27 (0, 0)) := by rw [hVd]; exact heap_alloc_new _ _
  have hrV : w0.heap.size < V.heap.size := heap_lt hR
  have hxV := hx.tch tV (by simp)
  obtain ⟨r0, hr0⟩ : ∃ r0, r0 = w0.heap.size := ⟨_, rfl⟩
  obtain ⟨a0, a1, a2, a3, a4, v0, v1, v2, v3, v4⟩ := F5.of hR
  by_cases h8 : 8192 < b0.length
  · have hri : readImg b0 = (noImg, 6) := by unfold readImg; rw [if_pos h8]
    have d8 : decide ((8192 : Int) < (b0.length : Int)) = true := decide_eq_true (by omega)
    rw [hri]
    go_enter Tryz.func14, Tryz.ntmps14
    go_upto_region 1 with fail
    rw [← hVd]
    clear hVd
    go_wp2_with fail
    refine bodyPost_ret (v := .tuple #[.agg #[.string ⟨#[]⟩, .slice none 0 0, .slice none 0 0, .slice none 0 0, .slice none 0 0], .int .i64 6]) (by simp [results, Tryz.results14, go_sem, a0, a1, a2, a3, a4, v0, v1, v2, v3, v4]) rfl ?_
    obtain ⟨n1, n2, n3, n4, n5⟩ := hno (((((V.setCell ⟨w0.heap.size, 0, none⟩ (.string ⟨#[]⟩)).setCell ⟨w0.heap.size, 1, none⟩ (.slice none 0 0)).setCell ⟨w0.heap.size, 2, none⟩ (.slice none 0 0)).setCell ⟨w0.heap.size, 3, none⟩ (.slice none 0 0)).setCell ⟨w0.heap.size, 4, none⟩ (.slice none 0 0))
    exact ⟨_, _, _, _, rfl, n1, n2, n3, n4, n5, (((((tV.setCell (.inr (by simp)) _).setCell (.inr (by simp)) _).setCell (.inr (by simp)) _).setCell (.inr (by simp)) _).setCell (.inr (by simp)) _)⟩
  have d8 : decide ((8192 : Int) < (b0.length : Int)) = false := decide_eq_false (by omega)
  go_enter Tryz.func14, Tryz.ntmps14
  go_upto_region 1 with fail
  rw [← hVd]
  clear hVd
  go_wp2_with fail
  refine (oct_NewReader V [w0.heap.size] (by simp; omega) L' _ b0 hxV hbt hbl).mono ?_
  rintro e w1 ⟨q, rfl, hq, R1, t1⟩
  have s1 := t1.size
  have hR1 : w1.heap[w0.heap.size]? = some (.cells #[.string ⟨#[]⟩, .slice none 0 0, .slice none 0 0, .slice none 0 0, .slice none 0 0] 27 (0, 0)) := by rw [t1.block _ hrV (by simp)]; exact hR
  clear a0 a1 a2 a3 a4 v0 v1 v2 v3 v4 hxV
  obtain ⟨w, hwd, p, b, hp, hb, hbs⟩ : ∃ w, w = (w1.alloc (.cells #[.pointer (some ⟨q, 0, none⟩), .int .i64 0] 80)).alloc (.cells #[.pointer (some ⟨w1.heap.size, 0, none⟩)] 76) ∧ ∃ p b, p = w1.heap.size ∧ b = w1.heap.size + 1 ∧ b < w.heap.size := ⟨_, rfl, _, _, rfl, rfl, by simp⟩
  have t2 : Tch [] w1 w := by rw [hwd]; exact ((Tch.refl [] w1).alloc _).alloc _
  have hpw : w.heap[p]? = some (.cells #[.pointer (some ⟨q, 0, none⟩), .int .i64 0] 80 (0, 0)) := by
    rw [hwd, hp]
    have h1 := heap_alloc_new w1 (.cells #[.pointer (some ⟨q, 0, none⟩), .int .i64 0] 80)
    have h2 := ((Tch.refl [] (w1.alloc (.cells #[.pointer (some ⟨q, 0, none⟩), .int .i64 0] 80))).alloc (.cells #[.pointer (some ⟨w1.heap.size, 0, none⟩)] 76)).block w1.heap.size (heap_lt h1) (by simp)
    rw [h2]; exact h1
  have hbw : w.cell? ⟨b, 0, none⟩ = some (.pointer (some ⟨p, 0, none⟩)) := by
    rw [hwd, hb, hp]; simp [go_sem]
  have hRw : w.heap[w0.heap.size]? = some (.cells #[.string ⟨#[]⟩, .slice none 0 0, .slice none 0 0, .slice none 0 0, .slice none 0 0] 27 (0, 0)) := by rw [t2.block _ (heap_lt hR1) (by simp)]; exact hR1
  have hqlt := R1.lt
  have Rw : Rd w 116 q [p, r0] b0 false := (R1.mono (L' := [p, r0]) (fun i hi hlt => by simp at hi ⊢; omega)).tch t2 (by simp) (by simp)
  have tw : Tch [] w0 w := (tV.then t1).then t2
  have cbb0 := hbw
  have cp0 : w.cell? ⟨p, 0, none⟩ = some (.pointer (some ⟨q, 0, none⟩)) := by simp [World.cell?, hpw]
  go_upto_region 4 with fail
  rw [← hwd]
  rw [← hb, ← hp, ← hr0]
  rw [← hr0] at hRw hrV
  have hpq : p ≠ q := by omega
  have hbq : b ≠ q ∧ b ≠ p := by omega
  have hbr : b ≠ r0 := by omega
  have hrr : r0 < p ∧ r0 ≠ q := by omega
  have hqp : q < p := by omega
  have hpl : p < w.heap.size := by omega
  have hw0 : w0.heap.size ≤ r0 := by omega
  have hq0 : r0 < q := by omega
  clear hwd hR hR1 t1 t2 tV R1 hr0 hq hqlt s1 hb hp
  have hout := rdOut_five b0
  go_wp2_with fail
  refine (oct_RRaw w q _ b0 false Rw 5 (by omega) hbl).mono ?_
  rintro e y ⟨ao, cap, rfl, ho, hn, Ry, ty⟩
  have hby : y.cell? ⟨b, 0, none⟩ = some (.pointer (some ⟨p, 0, none⟩)) := by rw [ty.cell (cell_lt hbw) (by simp; omega)]; exact hbw
  have hpy : y.heap[p]? = some (.cells #[.pointer (some ⟨q, 0, none⟩), .int .i64 0] 80 (0, 0)) := by rw [ty.block _ hpl (by simp; omega)]; exact hpw
  have hRy : y.heap[r0]? = some (.cells #[.string ⟨#[]⟩, .slice none 0 0, .slice none 0 0, .slice none 0 0, .slice none 0 0] 27 (0, 0)) := by rw [ty.block _ (heap_lt hRw) (by simp; omega)]; exact hRw
  have cpy : y.cell? ⟨p, 0, none⟩ = some (.pointer (some ⟨q, 0, none⟩)) := by simp [World.cell?, hpy]
  have twy : Tch [] w0 y := tw.trans ty (by simp) (fun i hlt hi => by simp at hi; omega)
  have hSy : Src y [] (.slice ao (rdOut b0 false 5).length cap) (rdOut b0 false 5).length (bys (rdOut b0 false 5)) := src_of_owns ho [] (by simp)
  obtain ⟨a0, a1, a2, a3, a4, v0, v1, v2, v3, v4⟩ := F5.of hRy
  clear hbw cbb0 hpw hRw cp0 Rw ty ho hn
  have hlk := oct_Lack y q _ _ _ Ry
  by_cases h5 : b0.length < 5
  · have hri : readImg b0 = (noImg, 7) := by unfold readImg; rw [if_neg h8, if_pos h5]
    have hok : rdOk b0 false 5 = false := by simp [rdOk]; omega
    rw [hok] at hlk
    have HRI := Lib.hid hri; clear hri
    go_wp2_with fail
    refine hlk.mono ?_
    rintro e y1 ⟨rfl, rfl⟩
    go_wp2_with fail
    refine bodyPost_ret (v := .tuple #[.agg #[.string ⟨#[]⟩, .slice none 0 0, .slice none 0 0, .slice none 0 0, .slice none 0 0], .int .i64 7]) (by simp [results, Tryz.results14, go_sem, a0, a1, a2, a3, a4, v0, v1, v2, v3, v4]) rfl ?_
    rw [HRI.out]
    obtain ⟨n1, n2, n3, n4, n5⟩ := hno (((((y.setCell ⟨r0, 0, none⟩ (.string ⟨#[]⟩)).setCell ⟨r0, 1, none⟩ (.slice none 0 0)).setCell ⟨r0, 2, none⟩ (.slice none 0 0)).setCell ⟨r0, 3, none⟩ (.slice none 0 0)).setCell ⟨r0, 4, none⟩ (.slice none 0 0))
    exact ⟨_, _, _, _, rfl, n1, n2, n3, n4, n5, (((((twy.setCell (.inr hw0) _).setCell (.inr hw0) _).setCell (.inr hw0) _).setCell (.inr hw0) _).setCell (.inr hw0) _)⟩
  have hok : rdOk b0 false 5 = true := by simp [rdOk]; omega
  obtain ⟨ho1, ho2⟩ := hout (by omega)
  rw [hok] at hlk Ry
  rw [ho2] at Ry
  clear hout
  generalize rdOut b0 false 5 = t5 at *
  have hcs := run_str (P := Tryz.prog) 30 5 9 Tryz.underlying30 Tryz.underlying5 Tryz.underlying9 hSy
  rw [strOfNums_unnums] at hcs
  have HO := Lib.hid ho1; clear ho1
  by_cases hh : b0.take 5 = head5
  · have htest : (unnums t5 == [84, 65, 67, 73, 1]) = true := by rw [HO.out, hh]; rfl
    have P00 : PSt 80 116 y p q [p, r0] (.ok (b0.drop 5)) := ⟨_, _, _, hpy, Ry, by simp; omega, hpq, .inl ⟨rfl, rfl, rfl⟩⟩
    have hry := heap_lt hRy
    have hsy := cell_lt hby
    clear a0 a1 a2 a3 a4 v0 v1 v2 v3 v4 hSy hpy
    go_wp2_with fail
    refine hlk.mono ?_
    rintro e y1 ⟨rfl, rfl⟩
    go_upto_region 9 with fail
    clear hlk htest hcs HO
    have cbb := hby
    have P0 : PSt 80 116 y.drew p q [p, r0] (.ok (b0.drop 5)) := P00.tch (Tch.refl [] y).drew (by simp) (by simp) (by simp)
    have T0 : Tch [p, q] y y.drew := (Tch.refl _ y).drew
    have hply : p < y.heap.size := P00.lt.1
    have hqly : q < y.heap.size := P00.lt.2.1
    clear P00
    go_cut [6] (fun s6 wz => ∃ (g : Nat) (bb : List Int) (af : Option Addr) (c_f : Nat) (fs : List Int) (st1 st2 : St), s6 = .pointer (some ⟨g, 0, none⟩) ∧ wz.heap[g]? = some (.cells ((((((#[.string ⟨#[]⟩, .slice none 0 0, .slice none 0 0, .slice none 0 0, .slice none 0 0] : Array Value).setIfInBounds 0 (.string (strOfNums bb))).setIfInBounds 1 (.slice af fs.length c_f)).setIfInBounds 2 (.slice none 0 0)).setIfInBounds 3 (.slice none 0 0)).setIfInBounds 4 (.slice none 0 0)) 27 (0, 0)) ∧ RInts wz [g, p, q, r0] (.slice af fs.length c_f) fs ∧ Got strP (.ok (b0.drop 5)) (unnums bb) st1 ∧ Got (cntP u8P) st1 fs st2 ∧ PSt 80 116 wz p q [g, p, r0] st2 ∧ y.heap.size ≤ g ∧ Tch [p, q, g] y wz)
    case first =>
      refine wp_region_held_drew (S := fun w' => w'.cell? ⟨b, 0, none⟩ = some (.pointer (some ⟨p, 0, none⟩)) ∧ w'.cell? ⟨p, 0, none⟩ = some (.pointer (some ⟨q, 0, none⟩))) (by kernel_rfl) ⟨cbb, P0.cell⟩ (fun hHeld => ?_)
      generalize y.drew = y0 at *
      refine wpAnyH_take (i := 0) (v := ?_) rfl (by kernel_rfl) (by kernel_rfl) (by kernel_rfl) (fun _ _ _ h => h) (Or.inl ⟨by rfl, ?_⟩) (by assumption) ?_
      rotate_left
      · (intro w hSw; (try dsimp only at hSw); go_simp; try with_reducible rfl)
      try simp only [Act.put, List.setIfInBounds_toArray, List.set_cons_zero, List.set_cons_succ]
      refine wpAnyH_take (i := 1) (v := ?_) rfl (by kernel_rfl) (by kernel_rfl) (by kernel_rfl) (fun _ _ _ h => h) (Or.inl ⟨by rfl, ?_⟩) (by assumption) ?_
      rotate_left
      · (intro w hSw; (try dsimp only at hSw); go_simp; try with_reducible rfl)
      try simp only [Act.put, List.setIfInBounds_toArray, List.set_cons_zero, List.set_cons_succ]
      refine wpAnyH_take (i := 2) (v := ?_) rfl (by kernel_rfl) (by kernel_rfl) (by kernel_rfl) (fun _ _ _ h => h) (Or.inl ⟨by rfl, ?_⟩) (by assumption) ?_
      rotate_left
      · (intro w hSw; (try dsimp only at hSw); go_simp; try with_reducible rfl)
      try simp only [Act.put, List.setIfInBounds_toArray, List.set_cons_zero, List.set_cons_succ]
      refine wpAnyH_take (i := 3) (v := ?_) rfl (by kernel_rfl) (by kernel_rfl) (by kernel_rfl) (fun _ _ _ h => h) (Or.inl ⟨by rfl, ?_⟩) (by assumption) ?_
      rotate_left
      · (intro w hSw; (try dsimp only at hSw); go_simp; try with_reducible rfl)
      try simp only [Act.put, List.setIfInBounds_toArray, List.set_cons_zero, List.set_cons_succ]
      refine wpAnyH_take (i := 6) (v := ?_) rfl (by kernel_rfl) (by kernel_rfl) (by kernel_rfl) (fun _ _ _ h => h) (Or.inl ⟨by rfl, ?_⟩) (by assumption) ?_
      rotate_left
      · (intro w hSw; (try dsimp only at hSw); go_simp; try with_reducible rfl)
      try simp only [Act.put, List.setIfInBounds_toArray, List.set_cons_zero, List.set_cons_succ]
      refine wpAnyH_ready (rs := [4, 9]) (by kernel_rfl) (by simp) ?_
      refine AllReadyH.cons rfl (fun K hK => ?_) (AllReadyH.cons rfl (fun K hK => ?_) (AllReadyH.nil))
      · go_simp
        go_at_call 48
        refine (rd_Short _ p q _ (.ok (b0.drop 5)) P0 [p, q] (by have := P0.lt; simp; omega)).mono ?_
        rintro e y1 ⟨ao, cap, bb, st1, rfl, S1, G1, P1, t1'⟩
        have t1 : Tch [p, q] y0 y1 := t1'.mono (fun i _ hi => by simp at hi ⊢; exact .inr hi)
        have T1 : Tch [p, q] y y1 := T0.trans t1 (fun _ _ x => x) (fun _ _ x => x)
        refine hK.out _ _ (⟨(T1.cell (cell_lt cbb) (by simp; omega)).trans cbb, P1.cell⟩) (fun hHeld => ?_)
        clear hK K
        try simp only [Act.put, List.setIfInBounds_toArray, List.set_cons_zero, List.set_cons_succ]
        refine wpAnyH_ready (rs := [5, 7, 9]) (by kernel_rfl) (by simp) ?_
        refine AllReadyH.cons rfl (fun K hK => ?_) (AllReadyH.cons rfl (fun K hK => ?_) (AllReadyH.cons rfl (fun K hK => ?_) (AllReadyH.nil)))
        · have hcs := run_str (P := Tryz.prog) 30 5 9 Tryz.underlying30 Tryz.underlying5 Tryz.underlying9 S1
          go_simp
          refine hK.out _ _ (⟨(T1.cell (cell_lt cbb) (by simp; omega)).trans cbb, P1.cell⟩) (fun hHeld => ?_)
          clear hK K
          try simp only [Act.put, List.setIfInBounds_toArray, List.set_cons_zero, List.set_cons_succ]
          refine wpAnyH_ready (rs := [7, 9]) (by kernel_rfl) (by simp) ?_
          refine AllReadyH.cons rfl (fun K hK => ?_) (AllReadyH.cons rfl (fun K hK => ?_) (AllReadyH.nil))
          · go_simp
            go_at_call 49
            refine (im_plist' _ p q _ st1 P1 (by simp) [p, q, r0] (by intro i hi; have hTs := T1.size; simp at hi; rcases hi with hi | hi | hi <;> omega)).mono ?_
            rintro e y2 ⟨af, c_f, fs, st2, rfl, I, G2, hfs, P2, t2⟩
            have T2 : Tch [p, q] y y2 := T1.trans t2 (fun _ _ x => x) (fun _ _ x => x)
            refine hK.out _ _ (⟨(T2.cell (cell_lt cbb) (by simp; omega)).trans cbb, P2.cell⟩) (fun hHeld => ?_)
            clear hK K
            try simp only [Act.put, List.setIfInBounds_toArray, List.set_cons_zero, List.set_cons_succ]
            refine wpAnyH_take (i := 8) (v := ?_) rfl (by kernel_rfl) (by kernel_rfl) (by kernel_rfl) (fun _ _ _ h => h) (Or.inl ⟨by rfl, ?_⟩) (by assumption) ?_
            rotate_left
            · (intro w hSw; (try dsimp only at hSw); go_simp; try with_reducible rfl)
            try simp only [Act.put, List.setIfInBounds_toArray, List.set_cons_zero, List.set_cons_succ]
            refine wpAnyH_ready (rs := [9]) (by kernel_rfl) (by simp) ?_
            refine AllReadyH.cons rfl (fun K hK => ?_) AllReadyH.nil
            go_simp
            obtain ⟨z, hz, hzg, tz⟩ : ∃ z, z = y2.alloc (.cells #[.string ⟨#[]⟩, .slice none 0 0, .slice none 0 0, .slice none 0 0, .slice none 0 0] 27) ∧ z.heap[y2.heap.size]? = some (.cells #[.string ⟨#[]⟩, .slice none 0 0, .slice none 0 0, .slice none 0 0, .slice none 0 0] 27 (0, 0)) ∧ Tch [] y2 z := ⟨_, rfl, heap_alloc_new _ _, (Tch.refl [] _).alloc _⟩
            rw [← hz]
            have hgn : y.heap.size ≤ y2.heap.size := T2.size
            have PZ : PSt 80 116 z p q (y2.heap.size :: [p, r0]) st2 := (P2.mono (fun i hi hlt => by
              rcases List.mem_cons.1 hi with hi | hi
              · omega
              · exact hi)).tch tz (by simp) (by simp) (by simp)
            have TZ : Tch [p, q] y z := T2.trans tz (fun _ _ x => x) (by simp)
            have Iz : RInts z (y2.heap.size :: [p, q, r0]) _ _ := RInts.tch (RInts.mono I (fun i hi hlt => by
              rcases List.mem_cons.1 hi with hi | hi
              · omega
              · exact hi)) tz (by simp)
            clear hz
            obtain ⟨g, hgd⟩ : ∃ g, g = y2.heap.size := ⟨_, rfl⟩
            rw [← hgd] at hzg hgn PZ Iz ⊢
            clear hgd
            refine hK.out _ _ (⟨(TZ.cell (cell_lt cbb) (by simp; omega)).trans cbb, PZ.cell⟩) (fun hHeld => ?_)
            clear hK K
            try simp only [Act.put, List.setIfInBounds_toArray, List.set_cons_zero, List.set_cons_succ]
            have TF : Tch [g] z (((((z.setCell ⟨g, 0, none⟩ (.string (strOfNums bb))).setCell ⟨g, 1, none⟩ (.slice af fs.length c_f)).setCell ⟨g, 2, none⟩ (.slice none 0 0)).setCell ⟨g, 3, none⟩ (.slice none 0 0)).setCell ⟨g, 4, none⟩ (.slice none 0 0)) := ((((((Tch.refl [g] z).setCell (.inl (by simp)) _).setCell (.inl (by simp)) _).setCell (.inl (by simp)) _).setCell (.inl (by simp)) _).setCell (.inl (by simp)) _)
            have hgF := box_setc (box_setc (box_setc (box_setc (box_setc hzg 0 (.string (strOfNums bb))) 1 (.slice af fs.length c_f)) 2 (.slice none 0 0)) 3 (.slice none 0 0)) 4 (.slice none 0 0)
            obtain ⟨b0, b1, b2, b3, b4, u0, u1, u2, u3, u4⟩ := F5.of hzg
            have cbF := (TF.cell (p := ⟨b, 0, none⟩) (Nat.lt_of_lt_of_le (cell_lt cbb) TZ.size) (by simp; omega)).trans (((TZ.cell (cell_lt cbb) (by simp; omega))).trans cbb)
            have cpF := (TF.cell (p := ⟨p, 0, none⟩) PZ.lt.1 (by simp; omega)).trans PZ.cell
            refine wpAnyH_ready (rs := [10]) (by kernel_rfl) (by simp) ?_
            refine AllReadyH.cons rfl (fun K hK => ?_) AllReadyH.nil
            go_simp
            refine hK.out _ _ (⟨cbF, cpF⟩) (fun hHeld => ?_)
            clear hK K
            try simp only [Act.put, List.setIfInBounds_toArray, List.set_cons_zero, List.set_cons_succ]
            refine wpAnyH_done (by kernel_rfl) ?_ _
            go_wp2_with fail
            go_meet
            case rel => exact ⟨g, bb, af, c_f, fs, st1, st2, rfl, hgF, RInts.tch Iz TF (fun i hi _ => by simp at hi; simp [hi]), G1, G2, PZ.tch TF (by simp; omega) (by simp; omega) (fun i hi _ => by simp at hi; simp [hi]), hgn, TZ.trans TF (fun i _ hi => by simp at hi ⊢; rcases hi with hi | hi <;> simp [hi]) (fun i _ hi => by simp at hi ⊢; simp [hi])⟩
          · go_simp
            obtain ⟨z, hz, hzg, tz⟩ : ∃ z, z = y1.alloc (.cells #[.string ⟨#[]⟩, .slice none 0 0, .slice none 0 0, .slice none 0 0, .slice none 0 0] 27) ∧ z.heap[y1.heap.size]? = some (.cells #[.string ⟨#[]⟩, .slice none 0 0, .slice none 0 0, .slice none 0 0, .slice none 0 0] 27 (0, 0)) ∧ Tch [] y1 z := ⟨_, rfl, heap_alloc_new _ _, (Tch.refl [] _).alloc _⟩
            rw [← hz]
            have hgn : y.heap.size ≤ y1.heap.size := T1.size
            have PZ : PSt 80 116 z p q (y1.heap.size :: [p, r0]) st1 := (P1.mono (fun i hi hlt => by
              rcases List.mem_cons.1 hi with hi | hi
              · omega
              · exact hi)).tch tz (by simp) (by simp) (by simp)
            have TZ : Tch [p, q] y z := T1.trans tz (fun _ _ x => x) (by simp)
            clear hz
            obtain ⟨g, hgd⟩ : ∃ g, g = y1.heap.size := ⟨_, rfl⟩
            rw [← hgd] at hzg hgn PZ ⊢
            clear hgd
            refine hK.out _ _ (⟨(TZ.cell (cell_lt cbb) (by simp; omega)).trans cbb, PZ.cell⟩) (fun hHeld => ?_)
            clear hK K
            try simp only [Act.put, List.setIfInBounds_toArray, List.set_cons_zero, List.set_cons_succ]
            refine wpAnyH_ready (rs := [7]) (by kernel_rfl) (by simp) ?_
            refine AllReadyH.cons rfl (fun K hK => ?_) AllReadyH.nil
            go_simp
            go_at_call 49
            refine (im_plist' _ p q _ st1 PZ (by simp) [g, p, q, r0] (by intro i hi; have hTs := TZ.size; have hgl := heap_lt hzg; simp at hi; rcases hi with hi | hi | hi | hi <;> omega)).mono ?_
            rintro e y2 ⟨af, c_f, fs, st2, rfl, I, G2, hfs, P2, t2⟩
            have T2 : Tch [p, q] y y2 := TZ.trans t2 (fun _ _ x => x) (fun _ _ x => x)
            have gq2 := (t2.block g (heap_lt hzg) (by simp; omega)).trans hzg
            refine hK.out _ _ (⟨(T2.cell (cell_lt cbb) (by simp; omega)).trans cbb, P2.cell⟩) (fun hHeld => ?_)
            clear hK K
            try simp only [Act.put, List.setIfInBounds_toArray, List.set_cons_zero, List.set_cons_succ]
            refine wpAnyH_take (i := 8) (v := ?_) rfl (by kernel_rfl) (by kernel_rfl) (by kernel_rfl) (fun _ _ _ h => h) (Or.inl ⟨by rfl, ?_⟩) (by assumption) ?_
            rotate_left
            · (intro w hSw; (try dsimp only at hSw); go_simp; try with_reducible rfl)
            try simp only [Act.put, List.setIfInBounds_toArray, List.set_cons_zero, List.set_cons_succ]
            have TF : Tch [g] y2 (((((y2.setCell ⟨g, 0, none⟩ (.string (strOfNums bb))).setCell ⟨g, 1, none⟩ (.slice af fs.length c_f)).setCell ⟨g, 2, none⟩ (.slice none 0 0)).setCell ⟨g, 3, none⟩ (.slice none 0 0)).setCell ⟨g, 4, none⟩ (.slice none 0 0)) := ((((((Tch.refl [g] y2).setCell (.inl (by simp)) _).setCell (.inl (by simp)) _).setCell (.inl (by simp)) _).setCell (.inl (by simp)) _).setCell (.inl (by simp)) _)
            have hgF := box_setc (box_setc (box_setc (box_setc (box_setc gq2 0 (.string (strOfNums bb))) 1 (.slice af fs.length c_f)) 2 (.slice none 0 0)) 3 (.slice none 0 0)) 4 (.slice none 0 0)
            obtain ⟨b0, b1, b2, b3, b4, u0, u1, u2, u3, u4⟩ := F5.of gq2
            have cbF := (TF.cell (p := ⟨b, 0, none⟩) (Nat.lt_of_lt_of_le (cell_lt cbb) T2.size) (by simp; omega)).trans (((T2.cell (cell_lt cbb) (by simp; omega))).trans cbb)
            have cpF := (TF.cell (p := ⟨p, 0, none⟩) P2.lt.1 (by simp; omega)).trans P2.cell
            refine wpAnyH_ready (rs := [10]) (by kernel_rfl) (by simp) ?_
            refine AllReadyH.cons rfl (fun K hK => ?_) AllReadyH.nil
            go_simp
            refine hK.out _ _ (⟨cbF, cpF⟩) (fun hHeld => ?_)
            clear hK K
            try simp only [Act.put, List.setIfInBounds_toArray, List.set_cons_zero, List.set_cons_succ]
            refine wpAnyH_done (by kernel_rfl) ?_ _
            go_wp2_with fail
            go_meet
            case rel => exact ⟨g, bb, af, c_f, fs, st1, st2, rfl, hgF, RInts.tch I TF (fun i hi _ => by simp at hi; simp [hi]), G1, G2, P2.tch TF (by simp; omega) (by simp; omega) (fun i hi _ => by simp at hi; simp [hi]), hgn, T2.trans TF (fun i _ hi => by simp at hi ⊢; rcases hi with hi | hi <;> simp [hi]) (fun i _ hi => by simp at hi ⊢; simp [hi])⟩
        · go_simp
          go_at_call 49
          refine (im_plist' _ p q _ st1 P1 (by simp) [p, q, r0] (by intro i hi; have hTs := T1.size; simp at hi; rcases hi with hi | hi | hi <;> omega)).mono ?_
          rintro e y2 ⟨af, c_f, fs, st2, rfl, I, G2, hfs, P2, t2⟩
          have T2 : Tch [p, q] y y2 := T1.trans t2 (fun _ _ x => x) (fun _ _ x => x)
          have S2 := Src.tch S1 t2 (fun i hi _ => hi)
          refine hK.out _ _ (⟨(T2.cell (cell_lt cbb) (by simp; omega)).trans cbb, P2.cell⟩) (fun hHeld => ?_)
          clear hK K
          try simp only [Act.put, List.setIfInBounds_toArray, List.set_cons_zero, List.set_cons_succ]
          refine wpAnyH_ready (rs := [5, 9]) (by kernel_rfl) (by simp) ?_
          refine AllReadyH.cons rfl (fun K hK => ?_) (AllReadyH.cons rfl (fun K hK => ?_) (AllReadyH.nil))
          · have hcs := run_str (P := Tryz.prog) 30 5 9 Tryz.underlying30 Tryz.underlying5 Tryz.underlying9 S2
            go_simp
            refine hK.out _ _ (⟨(T2.cell (cell_lt cbb) (by simp; omega)).trans cbb, P2.cell⟩) (fun hHeld => ?_)
            clear hK K
            try simp only [Act.put, List.setIfInBounds_toArray, List.set_cons_zero, List.set_cons_succ]
            refine wpAnyH_take (i := 8) (v := ?_) rfl (by kernel_rfl) (by kernel_rfl) (by kernel_rfl) (fun _ _ _ h => h) (Or.inl ⟨by rfl, ?_⟩) (by assumption) ?_
            rotate_left
            · (intro w hSw; (try dsimp only at hSw); go_simp; try with_reducible rfl)
            try simp only [Act.put, List.setIfInBounds_toArray, List.set_cons_zero, List.set_cons_succ]
            refine wpAnyH_ready (rs := [9]) (by kernel_rfl) (by simp) ?_
            refine AllReadyH.cons rfl (fun K hK => ?_) AllReadyH.nil
            go_simp
            obtain ⟨z, hz, hzg, tz⟩ : ∃ z, z = y2.alloc (.cells #[.string ⟨#[]⟩, .slice none 0 0, .slice none 0 0, .slice none 0 0, .slice none 0 0] 27) ∧ z.heap[y2.heap.size]? = some (.cells #[.string ⟨#[]⟩, .slice none 0 0, .slice none 0 0, .slice none 0 0, .slice none 0 0] 27 (0, 0)) ∧ Tch [] y2 z := ⟨_, rfl, heap_alloc_new _ _, (Tch.refl [] _).alloc _⟩
            rw [← hz]
            have hgn : y.heap.size ≤ y2.heap.size := T2.size
            have PZ : PSt 80 116 z p q (y2.heap.size :: [p, r0]) st2 := (P2.mono (fun i hi hlt => by
              rcases List.mem_cons.1 hi with hi | hi
              · omega
              · exact hi)).tch tz (by simp) (by simp) (by simp)
            have TZ : Tch [p, q] y z := T2.trans tz (fun _ _ x => x) (by simp)
            have Iz : RInts z (y2.heap.size :: [p, q, r0]) _ _ := RInts.tch (RInts.mono I (fun i hi hlt => by
              rcases List.mem_cons.1 hi with hi | hi
              · omega
              · exact hi)) tz (by simp)
            clear hz
            obtain ⟨g, hgd⟩ : ∃ g, g = y2.heap.size := ⟨_, rfl⟩
            rw [← hgd] at hzg hgn PZ Iz ⊢
            clear hgd
            refine hK.out _ _ (⟨(TZ.cell (cell_lt cbb) (by simp; omega)).trans cbb, PZ.cell⟩) (fun hHeld => ?_)
            clear hK K
            try simp only [Act.put, List.setIfInBounds_toArray, List.set_cons_zero, List.set_cons_succ]
            have TF : Tch [g] z (((((z.setCell ⟨g, 0, none⟩ (.string (strOfNums bb))).setCell ⟨g, 1, none⟩ (.slice af fs.length c_f)).setCell ⟨g, 2, none⟩ (.slice none 0 0)).setCell ⟨g, 3, none⟩ (.slice none 0 0)).setCell ⟨g, 4, none⟩ (.slice none 0 0)) := ((((((Tch.refl [g] z).setCell (.inl (by simp)) _).setCell (.inl (by simp)) _).setCell (.inl (by simp)) _).setCell (.inl (by simp)) _).setCell (.inl (by simp)) _)
            have hgF := box_setc (box_setc (box_setc (box_setc (box_setc hzg 0 (.string (strOfNums bb))) 1 (.slice af fs.length c_f)) 2 (.slice none 0 0)) 3 (.slice none 0 0)) 4 (.slice none 0 0)
            obtain ⟨b0, b1, b2, b3, b4, u0, u1, u2, u3, u4⟩ := F5.of hzg
            have cbF := (TF.cell (p := ⟨b, 0, none⟩) (Nat.lt_of_lt_of_le (cell_lt cbb) TZ.size) (by simp; omega)).trans (((TZ.cell (cell_lt cbb) (by simp; omega))).trans cbb)
            have cpF := (TF.cell (p := ⟨p, 0, none⟩) PZ.lt.1 (by simp; omega)).trans PZ.cell
            refine wpAnyH_ready (rs := [10]) (by kernel_rfl) (by simp) ?_
            refine AllReadyH.cons rfl (fun K hK => ?_) AllReadyH.nil
            go_simp
            refine hK.out _ _ (⟨cbF, cpF⟩) (fun hHeld => ?_)
            clear hK K
            try simp only [Act.put, List.setIfInBounds_toArray, List.set_cons_zero, List.set_cons_succ]
            refine wpAnyH_done (by kernel_rfl) ?_ _
            go_wp2_with fail
            go_meet
            case rel => exact ⟨g, bb, af, c_f, fs, st1, st2, rfl, hgF, RInts.tch Iz TF (fun i hi _ => by simp at hi; simp [hi]), G1, G2, PZ.tch TF (by simp; omega) (by simp; omega) (fun i hi _ => by simp at hi; simp [hi]), hgn, TZ.trans TF (fun i _ hi => by simp at hi ⊢; rcases hi with hi | hi <;> simp [hi]) (fun i _ hi => by simp at hi ⊢; simp [hi])⟩
          · go_simp
            obtain ⟨z, hz, hzg, tz⟩ : ∃ z, z = y2.alloc (.cells #[.string ⟨#[]⟩, .slice none 0 0, .slice none 0 0, .slice none 0 0, .slice none 0 0] 27) ∧ z.heap[y2.heap.size]? = some (.cells #[.string ⟨#[]⟩, .slice none 0 0, .slice none 0 0, .slice none 0 0, .slice none 0 0] 27 (0, 0)) ∧ Tch [] y2 z := ⟨_, rfl, heap_alloc_new _ _, (Tch.refl [] _).alloc _⟩
            rw [← hz]
            have hgn : y.heap.size ≤ y2.heap.size := T2.size
            have PZ : PSt 80 116 z p q (y2.heap.size :: [p, r0]) st2 := (P2.mono (fun i hi hlt => by
              rcases List.mem_cons.1 hi with hi | hi
              · omega
              · exact hi)).tch tz (by simp) (by simp) (by simp)
            have TZ : Tch [p, q] y z := T2.trans tz (fun _ _ x => x) (by simp)
            have Iz : RInts z (y2.heap.size :: [p, q, r0]) _ _ := RInts.tch (RInts.mono I (fun i hi hlt => by
              rcases List.mem_cons.1 hi with hi | hi
              · omega
              · exact hi)) tz (by simp)
            have Sz := Src.tch S2 tz (by simp)
            clear hz
            obtain ⟨g, hgd⟩ : ∃ g, g = y2.heap.size := ⟨_, rfl⟩
            rw [← hgd] at hzg hgn PZ Iz ⊢
            clear hgd
            refine hK.out _ _ (⟨(TZ.cell (cell_lt cbb) (by simp; omega)).trans cbb, PZ.cell⟩) (fun hHeld => ?_)
            clear hK K
            try simp only [Act.put, List.setIfInBounds_toArray, List.set_cons_zero, List.set_cons_succ]
            refine wpAnyH_ready (rs := [5]) (by kernel_rfl) (by simp) ?_
            refine AllReadyH.cons rfl (fun K hK => ?_) AllReadyH.nil
            have hcs := run_str (P := Tryz.prog) 30 5 9 Tryz.underlying30 Tryz.underlying5 Tryz.underlying9 Sz
            go_simp
            refine hK.out _ _ (⟨(TZ.cell (cell_lt cbb) (by simp; omega)).trans cbb, PZ.cell⟩) (fun hHeld => ?_)
            clear hK K
            try simp only [Act.put, List.setIfInBounds_toArray, List.set_cons_zero, List.set_cons_succ]
            refine wpAnyH_take (i := 8) (v := ?_) rfl (by kernel_rfl) (by kernel_rfl) (by kernel_rfl) (fun _ _ _ h => h) (Or.inl ⟨by rfl, ?_⟩) (by assumption) ?_
            rotate_left
            · (intro w hSw; (try dsimp only at hSw); go_simp; try with_reducible rfl)
            try simp only [Act.put, List.setIfInBounds_toArray, List.set_cons_zero, List.set_cons_succ]
            have TF : Tch [g] z (((((z.setCell ⟨g, 0, none⟩ (.string (strOfNums bb))).setCell ⟨g, 1, none⟩ (.slice af fs.length c_f)).setCell ⟨g, 2, none⟩ (.slice none 0 0)).setCell ⟨g, 3, none⟩ (.slice none 0 0)).setCell ⟨g, 4, none⟩ (.slice none 0 0)) := ((((((Tch.refl [g] z).setCell (.inl (by simp)) _).setCell (.inl (by simp)) _).setCell (.inl (by simp)) _).setCell (.inl (by simp)) _).setCell (.inl (by simp)) _)
            have hgF := box_setc (box_setc (box_setc (box_setc (box_setc hzg 0 (.string (strOfNums bb))) 1 (.slice af fs.length c_f)) 2 (.slice none 0 0)) 3 (.slice none 0 0)) 4 (.slice none 0 0)
            obtain ⟨b0, b1, b2, b3, b4, u0, u1, u2, u3, u4⟩ := F5.of hzg
            have cbF := (TF.cell (p := ⟨b, 0, none⟩) (Nat.lt_of_lt_of_le (cell_lt cbb) TZ.size) (by simp; omega)).trans (((TZ.cell (cell_lt cbb) (by simp; omega))).trans cbb)
            have cpF := (TF.cell (p := ⟨p, 0, none⟩) PZ.lt.1 (by simp; omega)).trans PZ.cell
            refine wpAnyH_ready (rs := [10]) (by kernel_rfl) (by simp) ?_
            refine AllReadyH.cons rfl (fun K hK => ?_) AllReadyH.nil
            go_simp
            refine hK.out _ _ (⟨cbF, cpF⟩) (fun hHeld => ?_)
            clear hK K
            try simp only [Act.put, List.setIfInBounds_toArray, List.set_cons_zero, List.set_cons_succ]
            refine wpAnyH_done (by kernel_rfl) ?_ _
            go_wp2_with fail
            go_meet
            case rel => exact ⟨g, bb, af, c_f, fs, st1, st2, rfl, hgF, RInts.tch Iz TF (fun i hi _ => by simp at hi; simp [hi]), G1, G2, PZ.tch TF (by simp; omega) (by simp; omega) (fun i hi _ => by simp at hi; simp [hi]), hgn, TZ.trans TF (fun i _ hi => by simp at hi ⊢; rcases hi with hi | hi <;> simp [hi]) (fun i _ hi => by simp at hi ⊢; simp [hi])⟩
        · go_simp
          obtain ⟨z, hz, hzg, tz⟩ : ∃ z, z = y1.alloc (.cells #[.string ⟨#[]⟩, .slice none 0 0, .slice none 0 0, .slice none 0 0, .slice none 0 0] 27) ∧ z.heap[y1.heap.size]? = some (.cells #[.string ⟨#[]⟩, .slice none 0 0, .slice none 0 0, .slice none 0 0, .slice none 0 0] 27 (0, 0)) ∧ Tch [] y1 z := ⟨_, rfl, heap_alloc_new _ _, (Tch.refl [] _).alloc _⟩
          rw [← hz]
          have hgn : y.heap.size ≤ y1.heap.size := T1.size
          have PZ : PSt 80 116 z p q (y1.heap.size :: [p, r0]) st1 := (P1.mono (fun i hi hlt => by
            rcases List.mem_cons.1 hi with hi | hi
            · omega
            · exact hi)).tch tz (by simp) (by simp) (by simp)
          have TZ : Tch [p, q] y z := T1.trans tz (fun _ _ x => x) (by simp)
          have Sz := Src.tch S1 tz (by simp)
          clear hz
          obtain ⟨g, hgd⟩ : ∃ g, g = y1.heap.size := ⟨_, rfl⟩
          rw [← hgd] at hzg hgn PZ ⊢
          clear hgd
          refine hK.out _ _ (⟨(TZ.cell (cell_lt cbb) (by simp; omega)).trans cbb, PZ.cell⟩) (fun hHeld => ?_)
          clear hK K
          try simp only [Act.put, List.setIfInBounds_toArray, List.set_cons_zero, List.set_cons_succ]
          refine wpAnyH_ready (rs := [5, 7]) (by kernel_rfl) (by simp) ?_
          refine AllReadyH.cons rfl (fun K hK => ?_) (AllReadyH.cons rfl (fun K hK => ?_) (AllReadyH.nil))
          · have hcs := run_str (P := Tryz.prog) 30 5 9 Tryz.underlying30 Tryz.underlying5 Tryz.underlying9 Sz
            go_simp
            refine hK.out _ _ (⟨(TZ.cell (cell_lt cbb) (by simp; omega)).trans cbb, PZ.cell⟩) (fun hHeld => ?_)
            clear hK K
            try simp only [Act.put, List.setIfInBounds_toArray, List.set_cons_zero, List.set_cons_succ]
            refine wpAnyH_ready (rs := [7]) (by kernel_rfl) (by simp) ?_
            refine AllReadyH.cons rfl (fun K hK => ?_) AllReadyH.nil
            go_simp
            go_at_call 49
            refine (im_plist' _ p q _ st1 PZ (by simp) [g, p, q, r0] (by intro i hi; have hTs := TZ.size; have hgl := heap_lt hzg; simp at hi; rcases hi with hi | hi | hi | hi <;> omega)).mono ?_
            rintro e y2 ⟨af, c_f, fs, st2, rfl, I, G2, hfs, P2, t2⟩
            have T2 : Tch [p, q] y y2 := TZ.trans t2 (fun _ _ x => x) (fun _ _ x => x)
            have gq2 := (t2.block g (heap_lt hzg) (by simp; omega)).trans hzg
            refine hK.out _ _ (⟨(T2.cell (cell_lt cbb) (by simp; omega)).trans cbb, P2.cell⟩) (fun hHeld => ?_)
            clear hK K
            try simp only [Act.put, List.setIfInBounds_toArray, List.set_cons_zero, List.set_cons_succ]
            refine wpAnyH_take (i := 8) (v := ?_) rfl (by kernel_rfl) (by kernel_rfl) (by kernel_rfl) (fun _ _ _ h => h) (Or.inl ⟨by rfl, ?_⟩) (by assumption) ?_
            rotate_left
            · (intro w hSw; (try dsimp only at hSw); go_simp; try with_reducible rfl)
            try simp only [Act.put, List.setIfInBounds_toArray, List.set_cons_zero, List.set_cons_succ]
            have TF : Tch [g] y2 (((((y2.setCell ⟨g, 0, none⟩ (.string (strOfNums bb))).setCell ⟨g, 1, none⟩ (.slice af fs.length c_f)).setCell ⟨g, 2, none⟩ (.slice none 0 0)).setCell ⟨g, 3, none⟩ (.slice none 0 0)).setCell ⟨g, 4, none⟩ (.slice none 0 0)) := ((((((Tch.refl [g] y2).setCell (.inl (by simp)) _).setCell (.inl (by simp)) _).setCell (.inl (by simp)) _).setCell (.inl (by simp)) _).setCell (.inl (by simp)) _)
            have hgF := box_setc (box_setc (box_setc (box_setc (box_setc gq2 0 (.string (strOfNums bb))) 1 (.slice af fs.length c_f)) 2 (.slice none 0 0)) 3 (.slice none 0 0)) 4 (.slice none 0 0)
            obtain ⟨b0, b1, b2, b3, b4, u0, u1, u2, u3, u4⟩ := F5.of gq2
            have cbF := (TF.cell (p := ⟨b, 0, none⟩) (Nat.lt_of_lt_of_le (cell_lt cbb) T2.size) (by simp; omega)).trans (((T2.cell (cell_lt cbb) (by simp; omega))).trans cbb)
            have cpF := (TF.cell (p := ⟨p, 0, none⟩) P2.lt.1 (by simp; omega)).trans P2.cell
            refine wpAnyH_ready (rs := [10]) (by kernel_rfl) (by simp) ?_
            refine AllReadyH.cons rfl (fun K hK => ?_) AllReadyH.nil
            go_simp
            refine hK.out _ _ (⟨cbF, cpF⟩) (fun hHeld => ?_)
            clear hK K
            try simp only [Act.put, List.setIfInBounds_toArray, List.set_cons_zero, List.set_cons_succ]
            refine wpAnyH_done (by kernel_rfl) ?_ _
            go_wp2_with fail
            go_meet
            case rel => exact ⟨g, bb, af, c_f, fs, st1, st2, rfl, hgF, RInts.tch I TF (fun i hi _ => by simp at hi; simp [hi]), G1, G2, P2.tch TF (by simp; omega) (by simp; omega) (fun i hi _ => by simp at hi; simp [hi]), hgn, T2.trans TF (fun i _ hi => by simp at hi ⊢; rcases hi with hi | hi <;> simp [hi]) (fun i _ hi => by simp at hi ⊢; simp [hi])⟩
          · go_simp
            go_at_call 49
            refine (im_plist' _ p q _ st1 PZ (by simp) [g, p, q, r0] (by intro i hi; have hTs := TZ.size; have hgl := heap_lt hzg; simp at hi; rcases hi with hi | hi | hi | hi <;> omega)).mono ?_
            rintro e y2 ⟨af, c_f, fs, st2, rfl, I, G2, hfs, P2, t2⟩
            have T2 : Tch [p, q] y y2 := TZ.trans t2 (fun _ _ x => x) (fun _ _ x => x)
            have S2 := Src.tch Sz t2 (fun i hi _ => hi)
            have gq2 := (t2.block g (heap_lt hzg) (by simp; omega)).trans hzg
            refine hK.out _ _ (⟨(T2.cell (cell_lt cbb) (by simp; omega)).trans cbb, P2.cell⟩) (fun hHeld => ?_)
            clear hK K
            try simp only [Act.put, List.setIfInBounds_toArray, List.set_cons_zero, List.set_cons_succ]
            refine wpAnyH_ready (rs := [5]) (by kernel_rfl) (by simp) ?_
            refine AllReadyH.cons rfl (fun K hK => ?_) AllReadyH.nil
            have hcs := run_str (P := Tryz.prog) 30 5 9 Tryz.underlying30 Tryz.underlying5 Tryz.underlying9 S2
            go_simp
            refine hK.out _ _ (⟨(T2.cell (cell_lt cbb) (by simp; omega)).trans cbb, P2.cell⟩) (fun hHeld => ?_)
            clear hK K
            try simp only [Act.put, List.setIfInBounds_toArray, List.set_cons_zero, List.set_cons_succ]
            refine wpAnyH_take (i := 8) (v := ?_) rfl (by kernel_rfl) (by kernel_rfl) (by kernel_rfl) (fun _ _ _ h => h) (Or.inl ⟨by rfl, ?_⟩) (by assumption) ?_
            rotate_left
            · (intro w hSw; (try dsimp only at hSw); go_simp; try with_reducible rfl)
            try simp only [Act.put, List.setIfInBounds_toArray, List.set_cons_zero, List.set_cons_succ]
            have TF : Tch [g] y2 (((((y2.setCell ⟨g, 0, none⟩ (.string (strOfNums bb))).setCell ⟨g, 1, none⟩ (.slice af fs.length c_f)).setCell ⟨g, 2, none⟩ (.slice none 0 0)).setCell ⟨g, 3, none⟩ (.slice none 0 0)).setCell ⟨g, 4, none⟩ (.slice none 0 0)) := ((((((Tch.refl [g] y2).setCell (.inl (by simp)) _).setCell (.inl (by simp)) _).setCell (.inl (by simp)) _).setCell (.inl (by simp)) _).setCell (.inl (by simp)) _)
            have hgF := box_setc (box_setc (box_setc (box_setc (box_setc gq2 0 (.string (strOfNums bb))) 1 (.slice af fs.length c_f)) 2 (.slice none 0 0)) 3 (.slice none 0 0)) 4 (.slice none 0 0)
            obtain ⟨b0, b1, b2, b3, b4, u0, u1, u2, u3, u4⟩ := F5.of gq2
            have cbF := (TF.cell (p := ⟨b, 0, none⟩) (Nat.lt_of_lt_of_le (cell_lt cbb) T2.size) (by simp; omega)).trans (((T2.cell (cell_lt cbb) (by simp; omega))).trans cbb)
            have cpF := (TF.cell (p := ⟨p, 0, none⟩) P2.lt.1 (by simp; omega)).trans P2.cell
            refine wpAnyH_ready (rs := [10]) (by kernel_rfl) (by simp) ?_
            refine AllReadyH.cons rfl (fun K hK => ?_) AllReadyH.nil
            go_simp
            refine hK.out _ _ (⟨cbF, cpF⟩) (fun hHeld => ?_)
            clear hK K
            try simp only [Act.put, List.setIfInBounds_toArray, List.set_cons_zero, List.set_cons_succ]
            refine wpAnyH_done (by kernel_rfl) ?_ _
            go_wp2_with fail
            go_meet
            case rel => exact ⟨g, bb, af, c_f, fs, st1, st2, rfl, hgF, RInts.tch I TF (fun i hi _ => by simp at hi; simp [hi]), G1, G2, P2.tch TF (by simp; omega) (by simp; omega) (fun i hi _ => by simp at hi; simp [hi]), hgn, T2.trans TF (fun i _ hi => by simp at hi ⊢; rcases hi with hi | hi <;> simp [hi]) (fun i _ hi => by simp at hi ⊢; simp [hi])⟩
      · go_simp
        obtain ⟨z, hz, hzg, tz⟩ : ∃ z, z = y0.alloc (.cells #[.string ⟨#[]⟩, .slice none 0 0, .slice none 0 0, .slice none 0 0, .slice none 0 0] 27) ∧ z.heap[y0.heap.size]? = some (.cells #[.string ⟨#[]⟩, .slice none 0 0, .slice none 0 0, .slice none 0 0, .slice none 0 0] 27 (0, 0)) ∧ Tch [] y0 z := ⟨_, rfl, heap_alloc_new _ _, (Tch.refl [] _).alloc _⟩
        rw [← hz]
        have hgn : y.heap.size ≤ y0.heap.size := T0.size
        have PZ : PSt 80 116 z p q (y0.heap.size :: [p, r0]) (.ok (b0.drop 5)) := (P0.mono (fun i hi hlt => by
          rcases List.mem_cons.1 hi with hi | hi
          · omega
          · exact hi)).tch tz (by simp) (by simp) (by simp)
        have TZ : Tch [p, q] y z := T0.trans tz (fun _ _ x => x) (by simp)
        clear hz
        obtain ⟨g, hgd⟩ : ∃ g, g = y0.heap.size := ⟨_, rfl⟩
        rw [← hgd] at hzg hgn PZ ⊢
        clear hgd
        refine hK.out _ _ (⟨(TZ.cell (cell_lt cbb) (by simp; omega)).trans cbb, PZ.cell⟩) (fun hHeld => ?_)
        clear hK K
        try simp only [Act.put, List.setIfInBounds_toArray, List.set_cons_zero, List.set_cons_succ]
        refine wpAnyH_ready (rs := [4]) (by kernel_rfl) (by simp) ?_
        refine AllReadyH.cons rfl (fun K hK => ?_) AllReadyH.nil
        go_simp
        go_at_call 48
        refine (rd_Short _ p q _ (.ok (b0.drop 5)) PZ [p, q] (by have := PZ.lt; simp; omega)).mono ?_
        rintro e y1 ⟨ao, cap, bb, st1, rfl, S1, G1, P1, t1'⟩
        have t1 : Tch [p, q] z y1 := t1'.mono (fun i _ hi => by simp at hi ⊢; exact .inr hi)
        have T1 : Tch [p, q] y y1 := TZ.trans t1 (fun _ _ x => x) (fun _ _ x => x)
        have gq1 := (t1.block g (heap_lt hzg) (by simp; omega)).trans hzg
        refine hK.out _ _ (⟨(T1.cell (cell_lt cbb) (by simp; omega)).trans cbb, P1.cell⟩) (fun hHeld => ?_)
        clear hK K
        try simp only [Act.put, List.setIfInBounds_toArray, List.set_cons_zero, List.set_cons_succ]
        refine wpAnyH_ready (rs := [5, 7]) (by kernel_rfl) (by simp) ?_
        refine AllReadyH.cons rfl (fun K hK => ?_) (AllReadyH.cons rfl (fun K hK => ?_) (AllReadyH.nil))
        · have hcs := run_str (P := Tryz.prog) 30 5 9 Tryz.underlying30 Tryz.underlying5 Tryz.underlying9 S1
          go_simp
          refine hK.out _ _ (⟨(T1.cell (cell_lt cbb) (by simp; omega)).trans cbb, P1.cell⟩) (fun hHeld => ?_)
          clear hK K
          try simp only [Act.put, List.setIfInBounds_toArray, List.set_cons_zero, List.set_cons_succ]
          refine wpAnyH_ready (rs := [7]) (by kernel_rfl) (by simp) ?_
          refine AllReadyH.cons rfl (fun K hK => ?_) AllReadyH.nil
          go_simp
          go_at_call 49
          refine (im_plist' _ p q _ st1 P1 (by simp) [g, p, q, r0] (by intro i hi; have hTs := T1.size; have hgl := heap_lt gq1; simp at hi; rcases hi with hi | hi | hi | hi <;> omega)).mono ?_
          rintro e y2 ⟨af, c_f, fs, st2, rfl, I, G2, hfs, P2, t2⟩
          have T2 : Tch [p, q] y y2 := T1.trans t2 (fun _ _ x => x) (fun _ _ x => x)
          have gq2 := (t2.block g (heap_lt gq1) (by simp; omega)).trans gq1
          refine hK.out _ _ (⟨(T2.cell (cell_lt cbb) (by simp; omega)).trans cbb, P2.cell⟩) (fun hHeld => ?_)
          clear hK K
          try simp only [Act.put, List.setIfInBounds_toArray, List.set_cons_zero, List.set_cons_succ]
          refine wpAnyH_take (i := 8) (v := ?_) rfl (by kernel_rfl) (by kernel_rfl) (by kernel_rfl) (fun _ _ _ h => h) (Or.inl ⟨by rfl, ?_⟩) (by assumption) ?_
          rotate_left
          · (intro w hSw; (try dsimp only at hSw); go_simp; try with_reducible rfl)
          try simp only [Act.put, List.setIfInBounds_toArray, List.set_cons_zero, List.set_cons_succ]
          have TF : Tch [g] y2 (((((y2.setCell ⟨g, 0, none⟩ (.string (strOfNums bb))).setCell ⟨g, 1, none⟩ (.slice af fs.length c_f)).setCell ⟨g, 2, none⟩ (.slice none 0 0)).setCell ⟨g, 3, none⟩ (.slice none 0 0)).setCell ⟨g, 4, none⟩ (.slice none 0 0)) := ((((((Tch.refl [g] y2).setCell (.inl (by simp)) _).setCell (.inl (by simp)) _).setCell (.inl (by simp)) _).setCell (.inl (by simp)) _).setCell (.inl (by simp)) _)
          have hgF := box_setc (box_setc (box_setc (box_setc (box_setc gq2 0 (.string (strOfNums bb))) 1 (.slice af fs.length c_f)) 2 (.slice none 0 0)) 3 (.slice none 0 0)) 4 (.slice none 0 0)
          obtain ⟨b0, b1, b2, b3, b4, u0, u1, u2, u3, u4⟩ := F5.of gq2
          have cbF := (TF.cell (p := ⟨b, 0, none⟩) (Nat.lt_of_lt_of_le (cell_lt cbb) T2.size) (by simp; omega)).trans (((T2.cell (cell_lt cbb) (by simp; omega))).trans cbb)
          have cpF := (TF.cell (p := ⟨p, 0, none⟩) P2.lt.1 (by simp; omega)).trans P2.cell
          refine wpAnyH_ready (rs := [10]) (by kernel_rfl) (by simp) ?_
          refine AllReadyH.cons rfl (fun K hK => ?_) AllReadyH.nil
          go_simp
          refine hK.out _ _ (⟨cbF, cpF⟩) (fun hHeld => ?_)
          clear hK K
          try simp only [Act.put, List.setIfInBounds_toArray, List.set_cons_zero, List.set_cons_succ]
          refine wpAnyH_done (by kernel_rfl) ?_ _
          go_wp2_with fail
          go_meet
          case rel => exact ⟨g, bb, af, c_f, fs, st1, st2, rfl, hgF, RInts.tch I TF (fun i hi _ => by simp at hi; simp [hi]), G1, G2, P2.tch TF (by simp; omega) (by simp; omega) (fun i hi _ => by simp at hi; simp [hi]), hgn, T2.trans TF (fun i _ hi => by simp at hi ⊢; rcases hi with hi | hi <;> simp [hi]) (fun i _ hi => by simp at hi ⊢; simp [hi])⟩
        · go_simp
          go_at_call 49
          refine (im_plist' _ p q _ st1 P1 (by simp) [g, p, q, r0] (by intro i hi; have hTs := T1.size; have hgl := heap_lt gq1; simp at hi; rcases hi with hi | hi | hi | hi <;> omega)).mono ?_
          rintro e y2 ⟨af, c_f, fs, st2, rfl, I, G2, hfs, P2, t2⟩
          have T2 : Tch [p, q] y y2 := T1.trans t2 (fun _ _ x => x) (fun _ _ x => x)
          have S2 := Src.tch S1 t2 (fun i hi _ => hi)
          have gq2 := (t2.block g (heap_lt gq1) (by simp; omega)).trans gq1
          refine hK.out _ _ (⟨(T2.cell (cell_lt cbb) (by simp; omega)).trans cbb, P2.cell⟩) (fun hHeld => ?_)
          clear hK K
          try simp only [Act.put, List.setIfInBounds_toArray, List.set_cons_zero, List.set_cons_succ]
          refine wpAnyH_ready (rs := [5]) (by kernel_rfl) (by simp) ?_
          refine AllReadyH.cons rfl (fun K hK => ?_) AllReadyH.nil
          have hcs := run_str (P := Tryz.prog) 30 5 9 Tryz.underlying30 Tryz.underlying5 Tryz.underlying9 S2
          go_simp
          refine hK.out _ _ (⟨(T2.cell (cell_lt cbb) (by simp; omega)).trans cbb, P2.cell⟩) (fun hHeld => ?_)
          clear hK K
          try simp only [Act.put, List.setIfInBounds_toArray, List.set_cons_zero, List.set_cons_succ]
          refine wpAnyH_take (i := 8) (v := ?_) rfl (by kernel_rfl) (by kernel_rfl) (by kernel_rfl) (fun _ _ _ h => h) (Or.inl ⟨by rfl, ?_⟩) (by assumption) ?_
          rotate_left
          · (intro w hSw; (try dsimp only at hSw); go_simp; try with_reducible rfl)
          try simp only [Act.put, List.setIfInBounds_toArray, List.set_cons_zero, List.set_cons_succ]
          have TF : Tch [g] y2 (((((y2.setCell ⟨g, 0, none⟩ (.string (strOfNums bb))).setCell ⟨g, 1, none⟩ (.slice af fs.length c_f)).setCell ⟨g, 2, none⟩ (.slice none 0 0)).setCell ⟨g, 3, none⟩ (.slice none 0 0)).setCell ⟨g, 4, none⟩ (.slice none 0 0)) := ((((((Tch.refl [g] y2).setCell (.inl (by simp)) _).setCell (.inl (by simp)) _).setCell (.inl (by simp)) _).setCell (.inl (by simp)) _).setCell (.inl (by simp)) _)
          have hgF := box_setc (box_setc (box_setc (box_setc (box_setc gq2 0 (.string (strOfNums bb))) 1 (.slice af fs.length c_f)) 2 (.slice none 0 0)) 3 (.slice none 0 0)) 4 (.slice none 0 0)
          obtain ⟨b0, b1, b2, b3, b4, u0, u1, u2, u3, u4⟩ := F5.of gq2
          have cbF := (TF.cell (p := ⟨b, 0, none⟩) (Nat.lt_of_lt_of_le (cell_lt cbb) T2.size) (by simp; omega)).trans (((T2.cell (cell_lt cbb) (by simp; omega))).trans cbb)
          have cpF := (TF.cell (p := ⟨p, 0, none⟩) P2.lt.1 (by simp; omega)).trans P2.cell
          refine wpAnyH_ready (rs := [10]) (by kernel_rfl) (by simp) ?_
          refine AllReadyH.cons rfl (fun K hK => ?_) AllReadyH.nil
          go_simp
          refine hK.out _ _ (⟨cbF, cpF⟩) (fun hHeld => ?_)
          clear hK K
          try simp only [Act.put, List.setIfInBounds_toArray, List.set_cons_zero, List.set_cons_succ]
          refine wpAnyH_done (by kernel_rfl) ?_ _
          go_wp2_with fail
          go_meet
          case rel => exact ⟨g, bb, af, c_f, fs, st1, st2, rfl, hgF, RInts.tch I TF (fun i hi _ => by simp at hi; simp [hi]), G1, G2, P2.tch TF (by simp; omega) (by simp; omega) (fun i hi _ => by simp at hi; simp [hi]), hgn, T2.trans TF (fun i _ hi => by simp at hi ⊢; rcases hi with hi | hi <;> simp [hi]) (fun i _ hi => by simp at hi ⊢; simp [hi])⟩
    case rest =>
      obtain ⟨g, bb, af, c_f, fs, st1, st2, rfl, hgF, I1, G1, G2, PF, hgn, TF⟩ := hcut
      clear P0 T0
      have hgl := heap_lt hgF
      have sF := TF.size
      have cbc : wc.cell? ⟨b, 0, none⟩ = some (.pointer (some ⟨p, 0, none⟩)) := by rw [TF.cell hsy (by simp; omega)]; exact cbb
      have hRc : wc.heap[r0]? = some (.cells #[.string ⟨#[]⟩, .slice none 0 0, .slice none 0 0, .slice none 0 0, .slice none 0 0] 27 (0, 0)) := by rw [TF.block _ hry (by simp; omega)]; exact hRy
      have hg0 : wc.heap[g]? = some (.cells ((#[.string (strOfNums bb), .slice af fs.length c_f, .slice none 0 0, .slice none 0 0, .slice none 0 0] : Array Value).setIfInBounds 2 (.slice none 0 0)) 27 (0, 0)) := hgF
      have hO1 : OL wc 27 45 4 g 2 g #[.string (strOfNums bb), .slice af fs.length c_f, .slice none 0 0, .slice none 0 0, .slice none 0 0] [p, q, g, r0] RImp [] := ⟨[], rfl, by simp, ⟨_, hg0, World.ownsRow_nil _ _ _ _, rfl, by simp [Value.ownBlock]⟩, by simp⟩
      have hMany1 := im_many impP 51 #[.pointer (some ⟨g, 0, none⟩), .pointer (some ⟨b, 0, none⟩)] (fun _ => by kernel_rfl) p q
        (fun W xs st => ∃ row, PSt 80 116 W p q (row :: g :: [p, r0]) st ∧ OL W 27 45 4 g 2 row #[.string (strOfNums bb), .slice af fs.length c_f, .slice none 0 0, .slice none 0 0, .slice none 0 0] [p, q, g, r0] RImp xs ∧ W.cell? ⟨b, 0, none⟩ = some (.pointer (some ⟨p, 0, none⟩)) ∧ (row = g ∨ wc.heap.size ≤ row) ∧ Tch [p, q, g] wc W)
        (fun W xs st ⟨row, j1, j2, j3, j4, j5⟩ => ⟨row :: g :: [p, r0], by simp, j1, fun W' st' k1 k2 => ⟨row, k1, OL.tch (fun d x hd => RImp.tch hd k2 (fun i hi _ => by simp at hi ⊢; rcases hi with hi | hi <;> simp [hi])) j2 k2 (by simp; omega) (by simp; omega), by rw [k2.cell (cell_lt j3) (by simp; omega)]; exact j3, j4, j5.trans k2 (fun _ _ x => x) (fun i _ hi => by simp at hi ⊢; rcases hi with hi | hi <;> simp [hi])⟩⟩)
        (fun W xs l ⟨row, j1, j2, j3, j4, j5⟩ hx => by
          have := j5.size
          refine (im_read1 W p q g b row [p, r0] [p, q, g, r0] l xs _ (by simp) j1 (by simp) j2 j3 (by omega) (by omega) (by simp) (by intro i hi; simp at hi; omega)).mono ?_
          rintro e W' ⟨rfl, x, st', k1, row', _, k2, k3, k4, k5⟩
          refine ⟨rfl, x, st', k1, row', k2, k3, ?_, by omega, j5.trans k5 (fun _ _ x => x) (fun i hlt hi => by simp at hi ⊢; omega)⟩
          rw [k5.cell (cell_lt j3) (by simp; omega)]; exact j3)
        wc st2 ⟨g, PF.mono (fun i hi _ => by rcases List.mem_cons.1 hi with hi | hi; exact hi ▸ List.mem_cons_self; exact hi), hO1, cbc, .inl rfl, Tch.refl _ _⟩
      clear hO1 hg0 hgF
      go_wp2_with fail
      refine hMany1.mono ?_
      rintro e w1' ⟨rfl, is, st3, G3, hil, row1, j1, j2, j3, j4, j5⟩
      have s5 := j5.size
      obtain ⟨ai, c_i, hgI, rI⟩ := OL.reads j2 [p, q, g, r0] (by rcases j4 with h | h; exact .inr h; exact .inl (by simp; omega)) (fun d x hd => RImp.mono hd (fun i hi _ => List.mem_cons_of_mem _ hi))
      have I1' := RInts.tch I1 j5 (fun i hi _ => by simp at hi ⊢; rcases hi with hi | hi | hi <;> simp [hi])
      have hRc1 : w1'.heap[r0]? = some (.cells #[.string ⟨#[]⟩, .slice none 0 0, .slice none 0 0, .slice none 0 0, .slice none 0 0] 27 (0, 0)) := by rw [j5.block _ (heap_lt hRc) (by simp; omega)]; exact hRc
      have PF1 := j1.mono (L' := [g, p, r0]) (fun i hi _ => by simp at hi ⊢; simp [hi])
      clear hMany1 j1 j2 I1 hRc PF cbc
      have hO2 : OL w1' 27 50 4 g 3 g #[.string (strOfNums bb), .slice af fs.length c_f, .slice ai is.length c_i, .slice none 0 0, .slice none 0 0] [p, q, g, r0] RMth [] := ⟨[], rfl, by simp, ⟨_, hgI, World.ownsRow_nil _ _ _ _, rfl, by simp [Value.ownBlock]⟩, by simp⟩
      have hMany2 := im_many mthP 53 #[.pointer (some ⟨g, 0, none⟩), .pointer (some ⟨b, 0, none⟩)] (fun _ => by kernel_rfl) p q
        (fun W xs st => ∃ row, PSt 80 116 W p q (row :: g :: [p, r0]) st ∧ OL W 27 50 4 g 3 row #[.string (strOfNums bb), .slice af fs.length c_f, .slice ai is.length c_i, .slice none 0 0, .slice none 0 0] [p, q, g, r0] RMth xs ∧ W.cell? ⟨b, 0, none⟩ = some (.pointer (some ⟨p, 0, none⟩)) ∧ (row = g ∨ w1'.heap.size ≤ row) ∧ Tch [p, q, g] w1' W)
        (fun W xs st ⟨row, j1, j2, j3, j4, j5⟩ => ⟨row :: g :: [p, r0], by simp, j1, fun W' st' k1 k2 => ⟨row, k1, OL.tch (fun d x hd => RMth.tch hd k2 (fun i hi _ => by simp at hi ⊢; rcases hi with hi | hi <;> simp [hi])) j2 k2 (by simp; omega) (by simp; omega), by rw [k2.cell (cell_lt j3) (by simp; omega)]; exact j3, j4, j5.trans k2 (fun _ _ x => x) (fun i _ hi => by simp at hi ⊢; rcases hi with hi | hi <;> simp [hi])⟩⟩)
        (fun W xs l ⟨row, j1, j2, j3, j4, j5⟩ hx => by
          have := j5.size
          refine (im_read2 W p q g b row [p, r0] [p, q, g, r0] l xs _ (by simp) j1 (by simp) j2 j3 (by omega) (by omega) (by simp) (by intro i hi; simp at hi; omega)).mono ?_
          rintro e W' ⟨rfl, x, st', k1, row', _, k2, k3, k4, k5⟩
          refine ⟨rfl, x, st', k1, row', k2, k3, ?_, by omega, j5.trans k5 (fun _ _ x => x) (fun i hlt hi => by simp at hi ⊢; omega)⟩
          rw [k5.cell (cell_lt j3) (by simp; omega)]; exact j3)
        w1' st3 ⟨g, PF1.mono (fun i hi _ => by rcases List.mem_cons.1 hi with hi | hi; exact hi ▸ List.mem_cons_self; exact hi), hO2, j3, .inl rfl, Tch.refl _ _⟩
      clear hO2 hgI
      go_wp2_with fail
      refine hMany2.mono ?_
      rintro e w2 ⟨rfl, ms, st4, G4, hml, row2, m1, m2, m3, m4, m5⟩
      have s6 := m5.size
      obtain ⟨am, c_m, hgM, rM⟩ := OL.reads m2 [p, q, g, r0] (by rcases m4 with h | h; exact .inr h; exact .inl (by simp; omega)) (fun d x hd => RMth.mono hd (fun i hi _ => List.mem_cons_of_mem _ hi))
      have sub3 : ∀ i ∈ [p, q, g], i < w1'.heap.size → i ∈ [p, q, g, r0] := fun i hi _ => by simp at hi ⊢; rcases hi with hi | hi | hi <;> simp [hi]
      have I2' := RInts.tch I1' m5 (fun i hi _ => by simp at hi ⊢; rcases hi with hi | hi | hi <;> simp [hi])
      have rI2 := RImps.tch rI m5 sub3
      have hRc2 : w2.heap[r0]? = some (.cells #[.string ⟨#[]⟩, .slice none 0 0, .slice none 0 0, .slice none 0 0, .slice none 0 0] 27 (0, 0)) := by rw [m5.block _ (heap_lt hRc1) (by simp; omega)]; exact hRc1
      have PF2 := m1.mono (L' := [g, p, r0]) (fun i hi _ => by simp at hi ⊢; simp [hi])
      clear hMany2 m1 m2 I1' rI hRc1 PF1 j3 sub3
      go_wp2_with fail
      refine (im_plist' w2 p q _ st4 PF2 (by simp) [p, q, g, r0] (by intro i hi; simp at hi; omega)).mono ?_
      rintro e w3 ⟨ae, c_e, ex, st5, rfl, I3, G5, hex, PF3, t3⟩
      have s7 := t3.size
      have hg3 : w3.heap[g]? = some (.cells (#[.string (strOfNums bb), .slice af fs.length c_f, .slice ai is.length c_i, .slice am ms.length c_m, .slice none 0 0] : Array Value) 27 (0, 0)) := by
        rw [t3.block _ (heap_lt hgM) (by simp; omega)]; exact hgM
      obtain ⟨x0, x1, x2, x3, x4, u0, u1, u2, u3, u4⟩ := F5.of hg3
      have cb3 : w3.cell? ⟨b, 0, none⟩ = some (.pointer (some ⟨p, 0, none⟩)) := by rw [t3.cell (cell_lt m3) (by simp; omega)]; exact m3
      obtain ⟨W4, hW4, hg4, t4⟩ : ∃ W4, W4 = w3.setCell ⟨g, 4, none⟩ (.slice ae ex.length c_e) ∧ W4.heap[g]? = some (.cells (#[.string (strOfNums bb), .slice af fs.length c_f, .slice ai is.length c_i, .slice am ms.length c_m, .slice ae ex.length c_e] : Array Value) 27 (0, 0)) ∧ Tch [g] w3 W4 := ⟨_, rfl, box_setc hg3 4 (.slice ae ex.length c_e), (Tch.refl _ _).setCell (.inl (by simp)) _⟩
      have sub3 : ∀ i ∈ [p, q], i < w2.heap.size → i ∈ [p, q, g, r0] := fun i hi _ => by simp at hi ⊢; rcases hi with hi | hi <;> simp [hi]
      have sub4 : ∀ i ∈ [g], i < w3.heap.size → i ∈ [p, q, g, r0] := fun i hi _ => by simp at hi ⊢; simp [hi]
      have I4 := RInts.tch (RInts.tch (RInts.mono (L' := [p, q, g, r0]) I2' (fun i hi _ => by simp at hi ⊢; rcases hi with hi | hi | hi | hi <;> simp [hi])) t3 sub3) t4 sub4
      have rI4 := RImps.tch (RImps.tch rI2 t3 sub3) t4 sub4
      have rM4 := RMths.tch (RMths.tch rM t3 sub3) t4 sub4
      have E4 := RInts.tch I3 t4 sub4
      have PF4 := PF3.tch t4 (by simp; omega) (by simp; omega) (fun i hi _ => by simp at hi; simp [hi])
      have cb4 : W4.cell? ⟨b, 0, none⟩ = some (.pointer (some ⟨p, 0, none⟩)) := by rw [t4.cell (cell_lt cb3) (by simp; omega)]; exact cb3
      have hRc4 : W4.heap[r0]? = some (.cells #[.string ⟨#[]⟩, .slice none 0 0, .slice none 0 0, .slice none 0 0, .slice none 0 0] 27 (0, 0)) := by
        rw [t4.block _ (by have := heap_lt hRc2; omega) (by simp; omega), t3.block _ (heap_lt hRc2) (by simp; omega)]; exact hRc2
      have GG : Got imgP (.ok (b0.drop 5)) ⟨unnums bb, fs, is, ms, ex⟩ st5 := Got.bind G1 (Got.bind G2 (Got.bind G3 (Got.bind G4 (Got.bind G5 (Got.ret _ _)))))
      have TT : Tch [] w0 W4 := ((((twy.trans TF (M := []) (by simp) (fun i hlt hi => by simp at hi; omega)).trans j5 (M := []) (by simp) (fun i hlt hi => by simp at hi; omega)).trans m5 (M := []) (by simp) (fun i hlt hi => by simp at hi; omega)).trans t3 (M := []) (by simp) (fun i hlt hi => by simp at hi; omega)).trans t4 (by simp) (fun i hlt hi => by simp at hi; omega)
      clear I2' rI2 rM I3 PF3 hgM m3 sub3 sub4 hRc2
      go_upto_region 13 with fail
      rw [← hW4]
      clear hW4 x0 x1 x2 x3 x4 u0 u1 u2 u3 u4 cb3 hg3
      have hps := PF4.lt
      have hrb : r0 ≠ b ∧ b ≠ r0 ∧ p ≠ r0 ∧ r0 ≠ p := by omega
      obtain ⟨hrb1, hrb2, hrb3, hrb4⟩ := hrb
      cases st5 with
      | error er =>
        have himg := GG.to_err
        have hri : readImg b0 = (noImg, er) := by
          unfold readImg
          rw [if_neg h8, if_neg h5, if_neg (by simp [hh]), himg]
        have HRI := Lib.hid hri; clear hri himg GG
        go_wp2_with fail
        refine (im_bad_err W4 p q _ er PF4 (by simp)).mono ?_
        rintro en w5 ⟨rfl, hp5, t5⟩
        have s8 := t5.size
        have cb5 : w5.cell? ⟨b, 0, none⟩ = some (.pointer (some ⟨p, 0, none⟩)) := by rw [t5.cell (cell_lt cb4) (by simp; omega)]; exact cb4
        have cp5 : w5.cell? ⟨p, 0, none⟩ = some (.pointer (some ⟨q, 0, none⟩)) := by simp [World.cell?, hp5]
        have ce5 : w5.cell? ⟨p, 1, none⟩ = some (.int .i64 er) := by simp [World.cell?, hp5]
        have hR5 : w5.heap[r0]? = some (.cells #[.string ⟨#[]⟩, .slice none 0 0, .slice none 0 0, .slice none 0 0, .slice none 0 0] 27 (0, 0)) := by rw [t5.block _ (heap_lt hRc4) (by simp; omega)]; exact hRc4
        obtain ⟨y0, y1, y2, y3, y4, g0, g1, g2, g3, g4⟩ := F5.of hR5
        have TT5 : Tch [] w0 w5.drew := (TT.trans t5 (by simp) (fun i hlt hi => by simp at hi; omega)).drew
        go_wp2_with fail
        go_region
        all_goals
          go_wp2_with fail
          refine bodyPost_ret (v := .tuple #[.agg #[.string ⟨#[]⟩, .slice none 0 0, .slice none 0 0, .slice none 0 0, .slice none 0 0], .int .i64 er]) (by simp [results, Tryz.results14, go_sem, y0, y1, y2, y3, y4, g0, g1, g2, g3, g4]) rfl ?_
          rw [HRI.out]
          obtain ⟨n1, n2, n3, n4, n5⟩ := hno (((((w5.setCell ⟨r0, 0, none⟩ (.string ⟨#[]⟩)).setCell ⟨r0, 1, none⟩ (.slice none 0 0)).setCell ⟨r0, 2, none⟩ (.slice none 0 0)).setCell ⟨r0, 3, none⟩ (.slice none 0 0)).setCell ⟨r0, 4, none⟩ (.slice none 0 0)).drew
          refine ⟨_, _, _, _, rfl, n1, n2, n3, n4, n5, ?_⟩
          exact ((((((TT.trans t5 (M := []) (by simp) (fun i hlt hi => by simp at hi; omega)).setCell (.inr hw0) _).setCell (.inr hw0) _).setCell (.inr hw0) _).setCell (.inr hw0) _).setCell (.inr hw0) _).drew
      | ok r =>
        have himg := GG.to_ok
        go_wp2_with fail
        refine (im_bad W4 p q _ _ PF4 (by simp)).mono ?_
        rintro en w5 ⟨rfl, PF5, t5⟩
        have s8 := t5.size
        have cb5 : w5.cell? ⟨b, 0, none⟩ = some (.pointer (some ⟨p, 0, none⟩)) := by rw [t5.cell (cell_lt cb4) (by simp; omega)]; exact cb4
        have cp5 := PF5.cell
        have hR5 : w5.heap[r0]? = some (.cells #[.string ⟨#[]⟩, .slice none 0 0, .slice none 0 0, .slice none 0 0, .slice none 0 0] 27 (0, 0)) := by rw [t5.block _ (heap_lt hRc4) (by simp; omega)]; exact hRc4
        have hg5 : w5.heap[g]? = some (.cells (#[.string (strOfNums bb), .slice af fs.length c_f, .slice ai is.length c_i, .slice am ms.length c_m, .slice ae ex.length c_e] : Array Value) 27 (0, 0)) := by rw [t5.block _ (heap_lt hg4) (by simp; omega)]; exact hg4
        obtain ⟨x0, x1, x2, x3, x4, u0, u1, u2, u3, u4⟩ := F5.of hR5
        have TT5 : Tch [] w0 w5 := TT.trans t5 (by simp) (fun i hlt hi => by simp at hi; omega)
        have sub5 : ∀ i ∈ [p], i < W4.heap.size → i ∈ [p, q, g, r0] := fun i hi _ => by simp at hi ⊢; simp [hi]
        have I5 := RInts.tch I4 t5 sub5
        have rI5 := RImps.tch rI4 t5 sub5
        have rM5 := RMths.tch rM4 t5 sub5
        have E5 := RInts.tch E4 t5 sub5
        have hX := cells_of_heap hg5
        have hZ := (sat_img _ _ _ (hbt.drop 5) himg).1
        have kR := im_Right w5 ⟨unnums bb, fs, is, ms, ex⟩ _ _ _ _ I5.thin rI5.thin rM5.thin E5.thin hZ (fun nm w' h16 t => hV nm w' h16 (TT5.then t))
        obtain ⟨lr, kr, wr, hr1, hr2, hr3, hr4, hr5⟩ := PF5.ex
        have hlr : lr = r ∧ kr = false := by
          rcases hr5 with ⟨e, hk, _⟩ | ⟨e, he, _⟩
          · simp only [Except.ok.injEq] at e; exact ⟨e.symm, hk⟩
          · cases he
        obtain ⟨rfl, rfl⟩ := hlr
        have kL := oct_Left w5 q _ _ _ hr2
        have hrd : readImg b0 = if lr ≠ [] ∨ imgB ⟨unnums bb, fs, is, ms, ex⟩ = false then (noImg, 5) else (⟨unnums bb, fs, is, ms, ex⟩, 0) := by
          unfold readImg
          rw [if_neg h8, if_neg h5, if_neg (by simp [hh]), himg]
        have hZ2 := hZ
        have HRD := Lib.hid hrd; clear hrd himg GG hr5 hr1 hr3 PF5 hZ
        have fin5 : ∀ (W : World), W = (((((w5.setCell ⟨r0, 0, none⟩ (.string ⟨#[]⟩)).setCell ⟨r0, 1, none⟩ (.slice none 0 0)).setCell ⟨r0, 2, none⟩ (.slice none 0 0)).setCell ⟨r0, 3, none⟩ (.slice none 0 0)).setCell ⟨r0, 4, none⟩ (.slice none 0 0)) → Tch [] w0 W := fun W hW => by
          rw [hW]; exact (((((TT5.setCell (.inr hw0) _).setCell (.inr hw0) _).setCell (.inr hw0) _).setCell (.inr hw0) _).setCell (.inr hw0) _)
        by_cases hl0 : lr = []
        · subst hl0
          cases hib : imgB ⟨unnums bb, fs, is, ms, ex⟩
          · rw [hib] at kR
            have HF := Lib.hid (show readImg b0 = (noImg, 5) by rw [HRD.out, if_pos (.inr hib)])
            go_wp2_with fail
            refine kL.mono ?_
            rintro en w6 ⟨rfl, rfl⟩
            obtain ⟨z0, z1, z2, z3, z4, _, _, _, _, _⟩ := F5.of hg5
            rw [strOfNums_unnums] at z0
            go_wp2_with fail
            refine kR.mono ?_
            rintro en w7 ⟨rfl, t7⟩
            have hR7 : w7.heap[r0]? = some (.cells #[.string ⟨#[]⟩, .slice none 0 0, .slice none 0 0, .slice none 0 0, .slice none 0 0] 27 (0, 0)) := by rw [t7.block _ (heap_lt hR5) (by simp)]; exact hR5
            obtain ⟨y0, y1, y2, y3, y4, g0, g1, g2, g3, g4⟩ := F5.of hR7
            go_wp2_with fail
            refine bodyPost_ret (v := .tuple #[.agg #[.string ⟨#[]⟩, .slice none 0 0, .slice none 0 0, .slice none 0 0, .slice none 0 0], .int .i64 5]) (by simp [results, Tryz.results14, go_sem, y0, y1, y2, y3, y4, g0, g1, g2, g3, g4]) rfl ?_
            rw [HF.out]
            obtain ⟨n1, n2, n3, n4, n5⟩ := hno (((((w7.setCell ⟨r0, 0, none⟩ (.string ⟨#[]⟩)).setCell ⟨r0, 1, none⟩ (.slice none 0 0)).setCell ⟨r0, 2, none⟩ (.slice none 0 0)).setCell ⟨r0, 3, none⟩ (.slice none 0 0)).setCell ⟨r0, 4, none⟩ (.slice none 0 0))
            exact ⟨_, _, _, _, rfl, n1, n2, n3, n4, n5, (((((((TT5.then t7).setCell (.inr hw0) _).setCell (.inr hw0) _).setCell (.inr hw0) _).setCell (.inr hw0) _).setCell (.inr hw0) _))⟩
          · rw [hib] at kR
            have HF := Lib.hid (show readImg b0 = (⟨unnums bb, fs, is, ms, ex⟩, 0) by rw [HRD.out, if_neg (by simp [hib])])
            go_wp2_with fail
            refine kL.mono ?_
            rintro en w6 ⟨rfl, rfl⟩
            obtain ⟨z0, z1, z2, z3, z4, _, _, _, _, _⟩ := F5.of hg5
            rw [strOfNums_unnums] at z0
            go_wp2_with fail
            refine kR.mono ?_
            rintro en w7 ⟨rfl, t7⟩
            have hR7 : w7.heap[r0]? = some (.cells #[.string ⟨#[]⟩, .slice none 0 0, .slice none 0 0, .slice none 0 0, .slice none 0 0] 27 (0, 0)) := by rw [t7.block _ (heap_lt hR5) (by simp)]; exact hR5
            have hX7 : ∀ (j : Nat) u, (#[.string (strOfNums bb), .slice af fs.length c_f, .slice ai is.length c_i, .slice am ms.length c_m, .slice ae ex.length c_e] : Array Value).toList[j]? = some u → w7.cell? ((⟨g, 0, none⟩ : Addr).add j) = some u := fun j u hj => by
              have h1 := hX j u hj
              rw [t7.cell (cell_lt h1) (by simp)]; exact h1
            obtain ⟨y0, y1, y2, y3, y4, g0, g1, g2, g3, g4⟩ := F5.of hR7
            go_wp2_with (first | (refine wpList_load_agg rfl 27 (.tmp 6) rfl ⟨g, 0, none⟩ rfl #[.string (strOfNums bb), .slice af fs.length c_f, .slice ai is.length c_i, .slice am ms.length c_m, .slice ae ex.length c_e] _ hX7 Tryz.underlying27 rfl (by kernel_rfl) ?_) | fail)
            refine bodyPost_ret (v := .tuple #[.agg #[.string (strOfNums bb), .slice af fs.length c_f, .slice ai is.length c_i, .slice am ms.length c_m, .slice ae ex.length c_e], .int .i64 0]) (by simp [results, Tryz.results14, go_sem, y0, y1, y2, y3, y4, g0, g1, g2, g3, g4]) rfl ?_
            rw [HF.out]
            have TR : Tch [r0] w7 (((((w7.setCell ⟨r0, 0, none⟩ (.string (strOfNums bb))).setCell ⟨r0, 1, none⟩ (.slice af fs.length c_f)).setCell ⟨r0, 2, none⟩ (.slice ai is.length c_i)).setCell ⟨r0, 3, none⟩ (.slice am ms.length c_m)).setCell ⟨r0, 4, none⟩ (.slice ae ex.length c_e)) := ((((((Tch.refl [r0] w7).setCell (.inl (by simp)) _).setCell (.inl (by simp)) _).setCell (.inl (by simp)) _).setCell (.inl (by simp)) _).setCell (.inl (by simp)) _)
            have subR : ∀ i ∈ [r0], i < w7.heap.size → i ∈ [p, q, g, r0] := fun i hi _ => by simp at hi ⊢; simp [hi]
            exact ⟨_, _, _, _, rfl, RInts.thin (RInts.tch (RInts.tch I5 t7 (by simp)) TR subR), RImps.thin (RImps.tch (RImps.tch rI5 t7 (by simp)) TR subR), RMths.thin (RMths.tch (RMths.tch rM5 t7 (by simp)) TR subR), RInts.thin (RInts.tch (RInts.tch E5 t7 (by simp)) TR subR), hZ2, (TT5.then t7).trans TR (by simp) (fun i hlt hi => by simp at hi; omega)⟩
        · have hl1 : 0 < lr.length := by cases lr with
            | nil => exact absurd rfl hl0
            | cons x l => simp
          have hd0 : decide ((0 : Int) < (lr.length : Int)) = true := decide_eq_true (by omega)
          have HF := Lib.hid (show readImg b0 = (noImg, 5) by rw [HRD.out, if_pos (.inl hl0)])
          go_wp2_with fail
          refine kL.mono ?_
          rintro en w6 ⟨rfl, rfl⟩
          go_wp2_with fail
          refine bodyPost_ret (v := .tuple #[.agg #[.string ⟨#[]⟩, .slice none 0 0, .slice none 0 0, .slice none 0 0, .slice none 0 0], .int .i64 5]) (by simp [results, Tryz.results14, go_sem, x0, x1, x2, x3, x4, u0, u1, u2, u3, u4]) rfl ?_
          rw [HF.out]
          obtain ⟨n1, n2, n3, n4, n5⟩ := hno (((((w5.setCell ⟨r0, 0, none⟩ (.string ⟨#[]⟩)).setCell ⟨r0, 1, none⟩ (.slice none 0 0)).setCell ⟨r0, 2, none⟩ (.slice none 0 0)).setCell ⟨r0, 3, none⟩ (.slice none 0 0)).setCell ⟨r0, 4, none⟩ (.slice none 0 0))
          exact ⟨_, _, _, _, rfl, n1, n2, n3, n4, n5, fin5 _ rfl⟩
  · have hri : readImg b0 = (noImg, 5) := by unfold readImg; rw [if_neg h8, if_neg h5, if_pos hh]
    have htest : (unnums t5 == [84, 65, 67, 73, 1]) = false := by
      rw [HO.out]
      refine beq_eq_false_iff_ne.2 (fun e => hh ?_)
      rw [← nums_unnums (b0.take 5) (hbt.take 5), e]
      rfl
    have HRI := Lib.hid hri; clear hri
    go_wp2_with fail
    refine hlk.mono ?_
    rintro e y1 ⟨rfl, rfl⟩
    go_wp2_with fail
    refine bodyPost_ret (v := .tuple #[.agg #[.string ⟨#[]⟩, .slice none 0 0, .slice none 0 0, .slice none 0 0, .slice none 0 0], .int .i64 5]) (by simp [results, Tryz.results14, go_sem, a0, a1, a2, a3, a4, v0, v1, v2, v3, v4]) rfl ?_
    rw [HRI.out]
    obtain ⟨n1, n2, n3, n4, n5⟩ := hno (((((y.setCell ⟨r0, 0, none⟩ (.string ⟨#[]⟩)).setCell ⟨r0, 1, none⟩ (.slice none 0 0)).setCell ⟨r0, 2, none⟩ (.slice none 0 0)).setCell ⟨r0, 3, none⟩ (.slice none 0 0)).setCell ⟨r0, 4, none⟩ (.slice none 0 0))
    exact ⟨_, _, _, _, rfl, n1, n2, n3, n4, n5, (((((twy.setCell (.inr hw0) _).setCell (.inr hw0) _).setCell (.inr hw0) _).setCell (.inr hw0) _).setCell (.inr hw0) _)⟩
end Go.Proofs.YtapephelfijcbaaGreatDoor
