/-
  CONTRACTS: image: all of a list; isMethod. Conditions: utf8's tables as they are laid.
  CONTRACTS: image.Right: which applets may be. Conditions: utf8's tables as they are laid; sizes of 64 bits.
-/
import Derived.Test.YteebapopeaafhaaDoorHImP
import Derived.Test.YteebapopeaafhaaDoorHLnk2
namespace Go.Tcn
open Go.RowKit
set_option linter.unusedVariables false
set_option linter.unusedSimpArgs false
/-- The first that is not so. -/
def badF {α : Type} (p : α → Bool) : List α → Nat → Int
  | [], _ => -1
  | x :: l, k => if p x = false then (k : Int) else badF p l (k + 1)
theorem badF_drop {α : Type} (p : α → Bool) (l : List α) (k : Nat) (hk : k < l.length) : badF p (l.drop k) k = if p l[k] = false then (k : Int) else badF p (l.drop (k + 1)) (k + 1) := by
  rw [List.drop_eq_getElem_cons hk]; rfl
theorem badF_all {α : Type} (p : α → Bool) (l : List α) (k : Nat) : decide (0 ≤ badF p l k) = !l.all p := by
  induction l generalizing k with
  | nil => rfl
  | cons x l ih =>
    unfold badF
    cases h : p x
    · rw [if_pos rfl]; simp [h]
    · rw [if_neg (by simp), ih]; simp [h]
/-- The sizes of a method, of an applet. -/
def MthZ (m : Mth) : Prop := m.params.length ≤ 9223372036854775807 ∧ m.locals.length ≤ 9223372036854775807 ∧ m.code.length ≤ 9223372036854775807 ∧ ∀ x ∈ m.code, I6 x.b
def ImgZ (i : Img) : Prop := i.fields.length ≤ 9223372036854775807 ∧ i.imports.length ≤ 9223372036854775807 ∧ (∀ x ∈ i.imports, x.params.length ≤ 9223372036854775807) ∧ i.methods.length ≤ 9223372036854775807 ∧ (∀ m ∈ i.methods, MthZ m) ∧ i.exports.length ≤ 9223372036854775807
theorem new_cells (w : World) (cs : Array Value) (T : TypeId) : ∀ (j : Nat) u, cs.toList[j]? = some u → (w.alloc (.cells cs T)).cell? ((⟨w.heap.size, 0, none⟩ : Addr).add j) = some u := by
  intro j u hj
  have e : (⟨w.heap.size, 0, none⟩ : Addr).add j = ⟨w.heap.size, j, none⟩ := by
    unfold Addr.add; split <;> simp_all
  rw [e]
  unfold World.cell?
  rw [heap_alloc_new]
  simpa using hj
theorem RCode.form {w : World} {L : List Nat} {v : Value} {l : List Ins} (h : RCode w L v l) : ∃ ao c, v = .slice ao l.length c := Src.form h
theorem RCode.asRL {w : World} {L : List Nat} {v : Value} {l : List Ins} (h : RCode w L v l) : RL w L 3 (fun cs x => cs = x.cells) v l :=
  ⟨⟨l.map Ins.cells, by simp, fun cs hc => by simp at hc; obtain ⟨x, _, rfl⟩ := hc; rfl, h, fun k cs x h1 h2 => by
    rw [List.getElem?_map, h2] at h1; simpa using h1.symm⟩⟩
theorem RCode.at {w : World} {L : List Nat} {ao : Option Addr} {m c : Nat} {l : List Ins} (h : RCode w L (.slice ao m c) l) {k : Nat} (hk : k < l.length) :
    ∃ ad, ao = some ad ∧ ad.block < w.heap.size ∧ (∀ (j : Nat) u, #[.int .i64 l[k].op, .int .i64 l[k].a, .int .i64 l[k].b].toList[j]? = some u → w.cell? ((ad.add (k * 3)).add j) = some u) := by
  obtain ⟨ad, cs, rfl, a1, a2, a3, rfl, a5⟩ := RL.at h.asRL hk (by omega)
  exact ⟨ad, rfl, a1, fun j u hj => by rw [Addr_add_add]; exact a5 j u hj⟩
end Go.Tcn
namespace Go.Proofs.YteebapopeaafhaaDoor
open Go.RowKit Go.Tcn
set_option linter.unusedVariables false
set_option linter.unusedSimpArgs false
set_option maxRecDepth 100000 in
set_option maxHeartbeats 4000000 in
theorem im_all_ins_1 (w : World) (b : Nat) (x : Ins) (hside : I6 x.b) (hb : w.cell? ⟨b, 0, none⟩ = some (.func (.func 77) #[] #[])) :
    Calls Tryd.prog 98 #[.agg #[.int .i64 x.op, .int .i64 x.a, .int .i64 x.b], .pointer (some ⟨b, 0, none⟩)] w fun e w' => e = .returned (.bool (!insB x)) ∧ Tch [] w w' := by
  obtain ⟨V, hVd⟩ : ∃ V, V = w.alloc (.cells #[.int .i64 x.op, .int .i64 x.a, .int .i64 x.b] 54) := ⟨_, rfl⟩
  have tV : Tch [] w V := by rw [hVd]; exact (Tch.refl [] w).alloc _
  have hb1 : V.cell? ⟨b, 0, none⟩ = some (.func (.func 77) #[] #[]) := by rw [tV.cell (cell_lt hb) (by simp)]; exact hb
  have hX : ∀ (j : Nat) u, (#[.int .i64 x.op, .int .i64 x.a, .int .i64 x.b] : Array Value).toList[j]? = some u → V.cell? ((⟨w.heap.size, 0, none⟩ : Addr).add j) = some u := by rw [hVd]; exact new_cells w _ _
  go_enter Tryd.func98, Tryd.ntmps98
  go_upto_region 1 with fail
  rw [← hVd]
  clear hVd
  go_wp2_with (first | (refine wpList_load_agg rfl 54 (.tmp 2) rfl ⟨w.heap.size, 0, none⟩ rfl #[.int .i64 x.op, .int .i64 x.a, .int .i64 x.b] _ hX Tryd.underlying54 rfl (by kernel_rfl) ?_) | fail)
  refine (code_Right x.op x.a x.b _ hside).mono ?_
  rintro e w1 ⟨rfl, t1⟩
  go_wp2_with fail
  go_ret
  exact ⟨rfl, tV.then t1⟩
set_option maxRecDepth 100000 in
set_option maxHeartbeats 4000000 in
theorem im_idx_ins (w : World) (b : Nat) (v : Value) (l : List Ins) (h : RCode w [] v l) (hm : l.length ≤ 9223372036854775807) (hs : ∀ x ∈ l, I6 x.b) (hb : w.cell? ⟨b, 0, none⟩ = some (.func (.func 77) #[] #[])) :
    Calls Tryd.prog 112 #[v, .func (.func 98) #[] #[.pointer (some ⟨b, 0, none⟩)]] w fun e w' => e = .returned (.int .i64 (badF insB l 0)) ∧ Tch [] w w' := by
  obtain ⟨a0, c0, rfl⟩ := RCode.form h
  go_enter Tryd.func112, Tryd.ntmps112
  go_wp2_with fail
  go_loopw [8] (fun i wz => ∃ k : Nat, k ≤ l.length ∧ i = .int .i64 k ∧ badF insB l 0 = badF insB (l.drop k) k ∧ Tch [] w wz) (fun i _ => l.length - (intOf i).toNat)
  case atStart => exact ⟨0, by omega, rfl, rfl, Tch.refl _ _⟩
  case round =>
    obtain ⟨k, hk1, rfl, hf, ht⟩ := hrel
    by_cases hk : k < l.length
    · obtain ⟨ad, rfl, hadl, hcc⟩ := RCode.at (h.tch ht (by simp)) hk
      have hbr : wr.cell? ⟨b, 0, none⟩ = some (.func (.func 77) #[] #[]) := by rw [ht.cell (cell_lt hb) (by simp)]; exact hb
      have hone := im_all_ins_1 wr b l[k] (hs _ (List.getElem_mem hk)) hbr
      have hfd := badF_drop insB l k hk
      generalize l[k] = x at *
      rw [hfd] at hf
      clear hfd
      have HF := Lib.hid hf; clear hf
      skip
      go_wp2_with (first | (refine wpList_load_agg rfl 54 (.tmp 14) rfl (ad.add (k * 3)) rfl #[.int .i64 x.op, .int .i64 x.a, .int .i64 x.b] _ hcc Tryd.underlying54 rfl (by kernel_rfl) ?_) | fail)
      refine hone.mono ?_
      rintro e w1 ⟨rfl, t1⟩
      have t2 := ht.then t1
      cases he : insB x
      · go_wp2_with fail
        (first | go_ret | go_ret2 | go_end0)
        exact ⟨by rw [HF.out, if_pos he]; rfl, t2⟩
      · go_wp2_with fail
        go_roundw
        case rel => exact ⟨k + 1, by omega, by go_num, by rw [HF.out, if_neg (by simp [he])], t2⟩
        case measure => simp [intOf]; omega
    · have hn : badF insB l 0 = -1 := by rw [hf, List.drop_eq_nil_of_le (by omega)]; rfl
      clear hf
      go_wp2_with fail
      (first | go_ret | go_ret2 | go_end0)
      exact ⟨by rw [hn]; rfl, ht⟩
set_option maxRecDepth 100000 in
set_option maxHeartbeats 4000000 in
theorem im_con_ins (w : World) (b : Nat) (v : Value) (l : List Ins) (h : RCode w [] v l) (hm : l.length ≤ 9223372036854775807) (hs : ∀ x ∈ l, I6 x.b) (hb : w.cell? ⟨b, 0, none⟩ = some (.func (.func 77) #[] #[])) :
    Calls Tryd.prog 97 #[v, .func (.func 98) #[] #[.pointer (some ⟨b, 0, none⟩)]] w fun e w' => e = .returned (.bool (!l.all insB)) ∧ Tch [] w w' := by
  go_enter Tryd.func97, Tryd.ntmps97
  go_wp2_with fail
  refine (im_idx_ins _ b v l h hm hs hb).mono ?_
  rintro e w1 ⟨rfl, t1⟩
  have hd := badF_all insB l 0
  generalize badF insB l 0 = bb at *
  have HD := Lib.hid hd; clear hd
  go_wp2_with fail
  go_ret
  exact ⟨by rw [← HD.out]; rfl, t1⟩
set_option maxRecDepth 100000 in
set_option maxHeartbeats 4000000 in
theorem im_all_ins (w : World) (v : Value) (l : List Ins) (h : RCode w [] v l) (hm : l.length ≤ 9223372036854775807) (hs : ∀ x ∈ l, I6 x.b) :
    Calls Tryd.prog 76 #[v, .func (.func 77) #[] #[]] w fun e w' => e = .returned (.bool (l.all insB)) ∧ Tch [] w w' := by
  have hmf : ∀ (fn : Fn) (first cap : Array Value) (w : World), (Instr.makeFunc fn first cap).run Tryd.prog w = .ok (.func fn first cap) w := fun _ _ _ _ => rfl
  obtain ⟨V, hVd⟩ : ∃ V, V = w.alloc (.cells #[.func (.func 77) #[] #[]] 85) := ⟨_, rfl⟩
  have tA : Tch [] w V := by rw [hVd]; exact (Tch.refl [] w).alloc _
  have hb : V.cell? ⟨w.heap.size, 0, none⟩ = some (.func (.func 77) #[] #[]) := by rw [hVd]; simp [go_sem]
  have hC := im_con_ins V w.heap.size v l (h.tch tA (by simp)) hm hs hb
  go_enter Tryd.func76, Tryd.ntmps76
  go_upto_region 1 with fail
  rw [← hVd]
  clear hVd
  go_wp2_with fail
  refine hC.mono ?_
  rintro e w1 ⟨rfl, t1⟩
  cases he : l.all insB
  · go_wp2_with fail
    go_ret
    exact ⟨by rw [he]; rfl, tA.then t1⟩
  · go_wp2_with fail
    go_ret
    exact ⟨by rw [he]; rfl, tA.then t1⟩
set_option maxRecDepth 100000 in
set_option maxHeartbeats 4000000 in
theorem im_isMethod (w : World) (x : Mth) (vp vl vc : Value) (hp : RInts w [] vp x.params) (hl : RInts w [] vl x.locals) (hc : RCode w [] vc x.code) (hz : MthZ x) :
    Calls Tryd.prog 43 #[.agg #[vp, .int .i64 x.result, vl, vc]] w fun e w' => e = .returned (.bool (mthB x)) ∧ Tch [] w w' := by
  obtain ⟨hz1, hz2, hz3, hz4⟩ := hz
  obtain ⟨ap, cp, rfl⟩ := Src.form hp
  obtain ⟨al, cl, rfl⟩ := Src.form hl
  obtain ⟨ac, cc, rfl⟩ := hc.form
  obtain ⟨V, hVd⟩ : ∃ V, V = w.alloc (.cells #[.slice ap x.params.length cp, .int .i64 x.result, .slice al x.locals.length cl, .slice ac x.code.length cc] 52) := ⟨_, rfl⟩
  have tV : Tch [] w V := by rw [hVd]; exact (Tch.refl [] w).alloc _
  have hB : Bq V w.heap.size (.slice ap x.params.length cp) (.int .i64 x.result) (.slice al x.locals.length cl) (.slice ac x.code.length cc) := by rw [hVd]; exact Bq.new _ _ _ _ _ _
  have hk1 := im_kinds V _ x.params (hp.tch tV (by simp)) hz1 4
  have hk2 := fun (he : kindsB x.params 4 = true) => im_kinds V _ x.locals (hl.tch tV (by simp)) hz2 (10 - x.params.length)
  have hk3 := im_all_ins V _ x.code (hc.tch tV (by simp)) hz3 hz4
  have hkr := fun w => im_isResult w x.result
  have hmb : mthB x = (kindsB x.params 4 && resB x.result && kindsB x.locals (10 - x.params.length) && decide (1 ≤ x.code.length ∧ x.code.length ≤ 120) && x.code.all insB) := rfl
  have hp4 : kindsB x.params 4 = true → x.params.length ≤ 4 := fun h => by have := (kindsB_le h).1; omega
  go_enter Tryd.func43, Tryd.ntmps43
  go_upto_region 1 with fail
  rw [← hVd]
  clear hVd
  obtain ⟨b0, b1, b2, b3⟩ := hB
  generalize x.code.all insB = ca at *
  generalize kindsB x.params 4 = kp at *
  generalize resB x.result = rb at *
  have HM := Lib.hid hmb; clear hmb
  cases kp
  · go_wp2_with fail
    refine hk1.mono ?_
    rintro e w1 ⟨rfl, rfl⟩
    go_wp2_with fail
    go_ret
    exact ⟨by rw [HM.out]; rfl, tV⟩
  have hp4' := hp4 rfl
  clear hp4
  cases rb
  · go_wp2_with fail
    refine hk1.mono ?_
    rintro e w1 ⟨rfl, rfl⟩
    go_wp2_with fail
    refine (hkr _).mono ?_
    rintro e w1 ⟨rfl, rfl⟩
    go_wp2_with fail
    go_ret
    exact ⟨by rw [HM.out]; rfl, tV⟩
  have hk2' := hk2 rfl
  clear hk2
  have ew : wrap64 (10 - (x.params.length : Int)) = 10 - (x.params.length : Int) := IntWalk.wrap64_in _ (by omega)
  generalize hkl : kindsB x.locals (10 - x.params.length) = kl at *
  clear hkl
  cases kl
  · go_wp2_with fail
    refine hk1.mono ?_
    rintro e w1 ⟨rfl, rfl⟩
    go_wp2_with fail
    refine (hkr _).mono ?_
    rintro e w1 ⟨rfl, rfl⟩
    go_wp2_with fail
    refine hk2'.mono ?_
    rintro e w1 ⟨rfl, rfl⟩
    go_wp2_with fail
    go_ret
    exact ⟨by rw [HM.out]; rfl, tV⟩
  have hcs : (decide ((1 : Int) ≤ (x.code.length : Int)) = false ∧ decide (1 ≤ x.code.length ∧ x.code.length ≤ 120) = false) ∨ (decide ((1 : Int) ≤ (x.code.length : Int)) = true ∧ decide ((x.code.length : Int) ≤ 120) = false ∧ decide (1 ≤ x.code.length ∧ x.code.length ≤ 120) = false) ∨ (decide ((1 : Int) ≤ (x.code.length : Int)) = true ∧ decide ((x.code.length : Int) ≤ 120) = true ∧ decide (1 ≤ x.code.length ∧ x.code.length ≤ 120) = true) := by
    simp only [decide_eq_true_eq, decide_eq_false_iff_not]; omega
  have hm' : mthB x = (decide (1 ≤ x.code.length ∧ x.code.length ≤ 120) && ca) := by rw [HM.out]; simp
  clear HM
  rcases hcs with ⟨d1, d2⟩ | ⟨d1, d2, d3⟩ | ⟨d1, d2, d3⟩
  · have HM := Lib.hid (show mthB x = false by rw [hm', d2]; rfl)
    clear hm' d2
    go_wp2_with fail
    refine hk1.mono ?_
    rintro e w1 ⟨rfl, rfl⟩
    go_wp2_with fail
    refine (hkr _).mono ?_
    rintro e w1 ⟨rfl, rfl⟩
    go_wp2_with fail
    refine hk2'.mono ?_
    rintro e w1 ⟨rfl, rfl⟩
    go_wp2_with fail
    go_ret
    exact ⟨by rw [HM.out]; rfl, tV⟩
  · have HM := Lib.hid (show mthB x = false by rw [hm', d3]; rfl)
    clear hm' d3
    go_wp2_with fail
    refine hk1.mono ?_
    rintro e w1 ⟨rfl, rfl⟩
    go_wp2_with fail
    refine (hkr _).mono ?_
    rintro e w1 ⟨rfl, rfl⟩
    go_wp2_with fail
    refine hk2'.mono ?_
    rintro e w1 ⟨rfl, rfl⟩
    go_wp2_with fail
    go_ret
    exact ⟨by rw [HM.out]; rfl, tV⟩
  · have HM := Lib.hid (show mthB x = ca by rw [hm', d3]; rfl)
    clear hm' d3
    go_wp2_with fail
    refine hk1.mono ?_
    rintro e w1 ⟨rfl, rfl⟩
    go_wp2_with fail
    refine (hkr _).mono ?_
    rintro e w1 ⟨rfl, rfl⟩
    go_wp2_with fail
    refine hk2'.mono ?_
    rintro e w1 ⟨rfl, rfl⟩
    go_wp2_with fail
    refine hk3.mono ?_
    rintro e w1 ⟨rfl, t1⟩
    go_wp2_with fail
    go_ret
    exact ⟨by rw [HM.out]; first | rfl | simp, tV.then t1⟩
set_option maxRecDepth 100000 in
set_option maxHeartbeats 4000000 in
theorem im_all_mth_1 (w : World) (b : Nat) (x : Mth) (vp vl vc : Value) (hp : RInts w [] vp x.params) (hl : RInts w [] vl x.locals) (hc : RCode w [] vc x.code) (hside : MthZ x) (hb : w.cell? ⟨b, 0, none⟩ = some (.func (.func 43) #[] #[])) :
    Calls Tryd.prog 75 #[.agg #[vp, .int .i64 x.result, vl, vc], .pointer (some ⟨b, 0, none⟩)] w fun e w' => e = .returned (.bool (!mthB x)) ∧ Tch [] w w' := by
  obtain ⟨V, hVd⟩ : ∃ V, V = w.alloc (.cells #[vp, .int .i64 x.result, vl, vc] 52) := ⟨_, rfl⟩
  have tV : Tch [] w V := by rw [hVd]; exact (Tch.refl [] w).alloc _
  have hb1 : V.cell? ⟨b, 0, none⟩ = some (.func (.func 43) #[] #[]) := by rw [tV.cell (cell_lt hb) (by simp)]; exact hb
  have hX : ∀ (j : Nat) u, (#[vp, .int .i64 x.result, vl, vc] : Array Value).toList[j]? = some u → V.cell? ((⟨w.heap.size, 0, none⟩ : Addr).add j) = some u := by rw [hVd]; exact new_cells w _ _
  go_enter Tryd.func75, Tryd.ntmps75
  go_upto_region 1 with fail
  rw [← hVd]
  clear hVd
  go_wp2_with (first | (refine wpList_load_agg rfl 52 (.tmp 2) rfl ⟨w.heap.size, 0, none⟩ rfl #[vp, .int .i64 x.result, vl, vc] _ hX Tryd.underlying52 rfl (by kernel_rfl) ?_) | fail)
  refine (im_isMethod _ x vp vl vc (hp.tch tV (by simp)) (hl.tch tV (by simp)) (hc.tch tV (by simp)) hside).mono ?_
  rintro e w1 ⟨rfl, t1⟩
  go_wp2_with fail
  go_ret
  exact ⟨rfl, tV.then t1⟩
set_option maxRecDepth 100000 in
set_option maxHeartbeats 4000000 in
theorem im_idx_mth (w : World) (b : Nat) (v : Value) (l : List Mth) (h : RMths w [] v l) (hm : l.length ≤ 9223372036854775807) (hs : ∀ x ∈ l, MthZ x) (hb : w.cell? ⟨b, 0, none⟩ = some (.func (.func 43) #[] #[])) :
    Calls Tryd.prog 96 #[v, .func (.func 75) #[] #[.pointer (some ⟨b, 0, none⟩)]] w fun e w' => e = .returned (.int .i64 (badF mthB l 0)) ∧ Tch [] w w' := by
  obtain ⟨a0, c0, rfl⟩ := RMths.form h
  go_enter Tryd.func96, Tryd.ntmps96
  go_wp2_with fail
  go_loopw [8] (fun i wz => ∃ k : Nat, k ≤ l.length ∧ i = .int .i64 k ∧ badF mthB l 0 = badF mthB (l.drop k) k ∧ Tch [] w wz) (fun i _ => l.length - (intOf i).toNat)
  case atStart => exact ⟨0, by omega, rfl, rfl, Tch.refl _ _⟩
  case round =>
    obtain ⟨k, hk1, rfl, hf, ht⟩ := hrel
    by_cases hk : k < l.length
    · obtain ⟨ad, vp, vl, vc, rfl, hadl, ip, il, ic, hcc⟩ := RMths.at (h.tch ht (by simp)) hk
      have hbr : wr.cell? ⟨b, 0, none⟩ = some (.func (.func 43) #[] #[]) := by rw [ht.cell (cell_lt hb) (by simp)]; exact hb
      have hone := im_all_mth_1 wr b l[k] vp vl vc ip il ic (hs _ (List.getElem_mem hk)) hbr
      have hfd := badF_drop mthB l k hk
      generalize l[k] = x at *
      rw [hfd] at hf
      clear hfd
      have HF := Lib.hid hf; clear hf
      skip
      go_wp2_with (first | (refine wpList_load_agg rfl 52 (.tmp 14) rfl (ad.add (k * 4)) rfl #[vp, .int .i64 x.result, vl, vc] _ hcc Tryd.underlying52 rfl (by kernel_rfl) ?_) | fail)
      refine hone.mono ?_
      rintro e w1 ⟨rfl, t1⟩
      have t2 := ht.then t1
      cases he : mthB x
      · go_wp2_with fail
        (first | go_ret | go_ret2 | go_end0)
        exact ⟨by rw [HF.out, if_pos he]; rfl, t2⟩
      · go_wp2_with fail
        go_roundw
        case rel => exact ⟨k + 1, by omega, by go_num, by rw [HF.out, if_neg (by simp [he])], t2⟩
        case measure => simp [intOf]; omega
    · have hn : badF mthB l 0 = -1 := by rw [hf, List.drop_eq_nil_of_le (by omega)]; rfl
      clear hf
      go_wp2_with fail
      (first | go_ret | go_ret2 | go_end0)
      exact ⟨by rw [hn]; rfl, ht⟩
set_option maxRecDepth 100000 in
set_option maxHeartbeats 4000000 in
theorem im_con_mth (w : World) (b : Nat) (v : Value) (l : List Mth) (h : RMths w [] v l) (hm : l.length ≤ 9223372036854775807) (hs : ∀ x ∈ l, MthZ x) (hb : w.cell? ⟨b, 0, none⟩ = some (.func (.func 43) #[] #[])) :
    Calls Tryd.prog 74 #[v, .func (.func 75) #[] #[.pointer (some ⟨b, 0, none⟩)]] w fun e w' => e = .returned (.bool (!l.all mthB)) ∧ Tch [] w w' := by
  go_enter Tryd.func74, Tryd.ntmps74
  go_wp2_with fail
  refine (im_idx_mth _ b v l h hm hs hb).mono ?_
  rintro e w1 ⟨rfl, t1⟩
  have hd := badF_all mthB l 0
  generalize badF mthB l 0 = bb at *
  have HD := Lib.hid hd; clear hd
  go_wp2_with fail
  go_ret
  exact ⟨by rw [← HD.out]; rfl, t1⟩
set_option maxRecDepth 100000 in
set_option maxHeartbeats 4000000 in
theorem im_all_mth (w : World) (v : Value) (l : List Mth) (h : RMths w [] v l) (hm : l.length ≤ 9223372036854775807) (hs : ∀ x ∈ l, MthZ x) :
    Calls Tryd.prog 42 #[v, .func (.func 43) #[] #[]] w fun e w' => e = .returned (.bool (l.all mthB)) ∧ Tch [] w w' := by
  have hmf : ∀ (fn : Fn) (first cap : Array Value) (w : World), (Instr.makeFunc fn first cap).run Tryd.prog w = .ok (.func fn first cap) w := fun _ _ _ _ => rfl
  obtain ⟨V, hVd⟩ : ∃ V, V = w.alloc (.cells #[.func (.func 43) #[] #[]] 76) := ⟨_, rfl⟩
  have tA : Tch [] w V := by rw [hVd]; exact (Tch.refl [] w).alloc _
  have hb : V.cell? ⟨w.heap.size, 0, none⟩ = some (.func (.func 43) #[] #[]) := by rw [hVd]; simp [go_sem]
  have hC := im_con_mth V w.heap.size v l (h.tch tA (by simp)) hm hs hb
  go_enter Tryd.func42, Tryd.ntmps42
  go_upto_region 1 with fail
  rw [← hVd]
  clear hVd
  go_wp2_with fail
  refine hC.mono ?_
  rintro e w1 ⟨rfl, t1⟩
  cases he : l.all mthB
  · go_wp2_with fail
    go_ret
    exact ⟨by rw [he]; rfl, tA.then t1⟩
  · go_wp2_with fail
    go_ret
    exact ⟨by rw [he]; rfl, tA.then t1⟩
set_option maxRecDepth 100000 in
set_option maxHeartbeats 4000000 in
theorem im_all_imp_1 (w : World) (b : Nat) (x : Imp) (vp : Value) (hp : RInts w [] vp x.params) (hside : x.params.length ≤ 9223372036854775807) (hV : ∀ nm w', nm.length ≤ 16 → Tch [] w w' → Calls Tryd.prog 66 #[.string ⟨nm.toArray⟩] w' fun e w'' => e = .returned (.bool (Lib.validD nm)) ∧ Tch [] w' w'') (hb : w.cell? ⟨b, 0, none⟩ = some (.func (.func 41) #[] #[])) :
    Calls Tryd.prog 72 #[.agg #[.string ⟨x.name.toArray⟩, .int .i64 x.exp, vp, .int .i64 x.result], .pointer (some ⟨b, 0, none⟩)] w fun e w' => e = .returned (.bool (!impB x)) ∧ Tch [] w w' := by
  obtain ⟨V, hVd⟩ : ∃ V, V = w.alloc (.cells #[.string ⟨x.name.toArray⟩, .int .i64 x.exp, vp, .int .i64 x.result] 57) := ⟨_, rfl⟩
  have tV : Tch [] w V := by rw [hVd]; exact (Tch.refl [] w).alloc _
  have hb1 : V.cell? ⟨b, 0, none⟩ = some (.func (.func 41) #[] #[]) := by rw [tV.cell (cell_lt hb) (by simp)]; exact hb
  have hX : ∀ (j : Nat) u, (#[.string ⟨x.name.toArray⟩, .int .i64 x.exp, vp, .int .i64 x.result] : Array Value).toList[j]? = some u → V.cell? ((⟨w.heap.size, 0, none⟩ : Addr).add j) = some u := by rw [hVd]; exact new_cells w _ _
  go_enter Tryd.func72, Tryd.ntmps72
  go_upto_region 1 with fail
  rw [← hVd]
  clear hVd
  go_wp2_with (first | (refine wpList_load_agg rfl 57 (.tmp 2) rfl ⟨w.heap.size, 0, none⟩ rfl #[.string ⟨x.name.toArray⟩, .int .i64 x.exp, vp, .int .i64 x.result] _ hX Tryd.underlying57 rfl (by kernel_rfl) ?_) | fail)
  refine (im_isImport _ x vp (hp.tch tV (by simp)) hside (fun h16 w' t => hV _ w' h16 (tV.then t))).mono ?_
  rintro e w1 ⟨rfl, t1⟩
  go_wp2_with fail
  go_ret
  exact ⟨rfl, tV.then t1⟩
set_option maxRecDepth 100000 in
set_option maxHeartbeats 4000000 in
theorem im_idx_imp (w : World) (b : Nat) (v : Value) (l : List Imp) (h : RImps w [] v l) (hm : l.length ≤ 9223372036854775807) (hs : ∀ x ∈ l, x.params.length ≤ 9223372036854775807) (hV : ∀ nm w', nm.length ≤ 16 → Tch [] w w' → Calls Tryd.prog 66 #[.string ⟨nm.toArray⟩] w' fun e w'' => e = .returned (.bool (Lib.validD nm)) ∧ Tch [] w' w'') (hb : w.cell? ⟨b, 0, none⟩ = some (.func (.func 41) #[] #[])) :
    Calls Tryd.prog 95 #[v, .func (.func 72) #[] #[.pointer (some ⟨b, 0, none⟩)]] w fun e w' => e = .returned (.int .i64 (badF impB l 0)) ∧ Tch [] w w' := by
  obtain ⟨a0, c0, rfl⟩ := RImps.form h
  go_enter Tryd.func95, Tryd.ntmps95
  go_wp2_with fail
  go_loopw [8] (fun i wz => ∃ k : Nat, k ≤ l.length ∧ i = .int .i64 k ∧ badF impB l 0 = badF impB (l.drop k) k ∧ Tch [] w wz) (fun i _ => l.length - (intOf i).toNat)
  case atStart => exact ⟨0, by omega, rfl, rfl, Tch.refl _ _⟩
  case round =>
    obtain ⟨k, hk1, rfl, hf, ht⟩ := hrel
    by_cases hk : k < l.length
    · obtain ⟨ad, vp, rfl, hadl, ip, hcc⟩ := RImps.at (h.tch ht (by simp)) hk
      have hbr : wr.cell? ⟨b, 0, none⟩ = some (.func (.func 41) #[] #[]) := by rw [ht.cell (cell_lt hb) (by simp)]; exact hb
      have hone := im_all_imp_1 wr b l[k] vp ip (hs _ (List.getElem_mem hk)) (fun nm w' h16 t => hV nm w' h16 (ht.then t)) hbr
      have hfd := badF_drop impB l k hk
      generalize l[k] = x at *
      rw [hfd] at hf
      clear hfd
      have HF := Lib.hid hf; clear hf
      unfold str at hcc
      go_wp2_with (first | (refine wpList_load_agg rfl 57 (.tmp 14) rfl (ad.add (k * 4)) rfl #[.string ⟨x.name.toArray⟩, .int .i64 x.exp, vp, .int .i64 x.result] _ hcc Tryd.underlying57 rfl (by kernel_rfl) ?_) | fail)
      refine hone.mono ?_
      rintro e w1 ⟨rfl, t1⟩
      have t2 := ht.then t1
      cases he : impB x
      · go_wp2_with fail
        (first | go_ret | go_ret2 | go_end0)
        exact ⟨by rw [HF.out, if_pos he]; rfl, t2⟩
      · go_wp2_with fail
        go_roundw
        case rel => exact ⟨k + 1, by omega, by go_num, by rw [HF.out, if_neg (by simp [he])], t2⟩
        case measure => simp [intOf]; omega
    · have hn : badF impB l 0 = -1 := by rw [hf, List.drop_eq_nil_of_le (by omega)]; rfl
      clear hf
      go_wp2_with fail
      (first | go_ret | go_ret2 | go_end0)
      exact ⟨by rw [hn]; rfl, ht⟩
set_option maxRecDepth 100000 in
set_option maxHeartbeats 4000000 in
theorem im_con_imp (w : World) (b : Nat) (v : Value) (l : List Imp) (h : RImps w [] v l) (hm : l.length ≤ 9223372036854775807) (hs : ∀ x ∈ l, x.params.length ≤ 9223372036854775807) (hV : ∀ nm w', nm.length ≤ 16 → Tch [] w w' → Calls Tryd.prog 66 #[.string ⟨nm.toArray⟩] w' fun e w'' => e = .returned (.bool (Lib.validD nm)) ∧ Tch [] w' w'') (hb : w.cell? ⟨b, 0, none⟩ = some (.func (.func 41) #[] #[])) :
    Calls Tryd.prog 71 #[v, .func (.func 72) #[] #[.pointer (some ⟨b, 0, none⟩)]] w fun e w' => e = .returned (.bool (!l.all impB)) ∧ Tch [] w w' := by
  go_enter Tryd.func71, Tryd.ntmps71
  go_wp2_with fail
  refine (im_idx_imp _ b v l h hm hs hV hb).mono ?_
  rintro e w1 ⟨rfl, t1⟩
  have hd := badF_all impB l 0
  generalize badF impB l 0 = bb at *
  have HD := Lib.hid hd; clear hd
  go_wp2_with fail
  go_ret
  exact ⟨by rw [← HD.out]; rfl, t1⟩
set_option maxRecDepth 100000 in
set_option maxHeartbeats 4000000 in
theorem im_all_imp (w : World) (v : Value) (l : List Imp) (h : RImps w [] v l) (hm : l.length ≤ 9223372036854775807) (hs : ∀ x ∈ l, x.params.length ≤ 9223372036854775807) (hV : ∀ nm w', nm.length ≤ 16 → Tch [] w w' → Calls Tryd.prog 66 #[.string ⟨nm.toArray⟩] w' fun e w'' => e = .returned (.bool (Lib.validD nm)) ∧ Tch [] w' w'') :
    Calls Tryd.prog 40 #[v, .func (.func 41) #[] #[]] w fun e w' => e = .returned (.bool (l.all impB)) ∧ Tch [] w w' := by
  have hmf : ∀ (fn : Fn) (first cap : Array Value) (w : World), (Instr.makeFunc fn first cap).run Tryd.prog w = .ok (.func fn first cap) w := fun _ _ _ _ => rfl
  obtain ⟨V, hVd⟩ : ∃ V, V = w.alloc (.cells #[.func (.func 41) #[] #[]] 74) := ⟨_, rfl⟩
  have tA : Tch [] w V := by rw [hVd]; exact (Tch.refl [] w).alloc _
  have hb : V.cell? ⟨w.heap.size, 0, none⟩ = some (.func (.func 41) #[] #[]) := by rw [hVd]; simp [go_sem]
  have hC := im_con_imp V w.heap.size v l (h.tch tA (by simp)) hm hs (fun nm w' h16 t => hV nm w' h16 (tA.then t)) hb
  go_enter Tryd.func40, Tryd.ntmps40
  go_upto_region 1 with fail
  rw [← hVd]
  clear hVd
  go_wp2_with fail
  refine hC.mono ?_
  rintro e w1 ⟨rfl, t1⟩
  cases he : l.all impB
  · go_wp2_with fail
    go_ret
    exact ⟨by rw [he]; rfl, tA.then t1⟩
  · go_wp2_with fail
    go_ret
    exact ⟨by rw [he]; rfl, tA.then t1⟩
end Go.Proofs.YteebapopeaafhaaDoor
namespace Go.Tcn
open Go.RowKit
set_option linter.unusedVariables false
set_option linter.unusedSimpArgs false
/-- Five cells of a block. -/
structure B5 (w : World) (g : Nat) (x0 x1 x2 x3 x4 : Value) : Prop where
  c0 : w.cell? ⟨g, 0, none⟩ = some x0
  c1 : w.cell? ⟨g, 1, none⟩ = some x1
  c2 : w.cell? ⟨g, 2, none⟩ = some x2
  c3 : w.cell? ⟨g, 3, none⟩ = some x3
  c4 : w.cell? ⟨g, 4, none⟩ = some x4
theorem B5.tch {w w' : World} {g : Nat} {x0 x1 x2 x3 x4 : Value} (h : B5 w g x0 x1 x2 x3 x4) (t : Tch [] w w') : B5 w' g x0 x1 x2 x3 x4 :=
  ⟨by rw [t.cell (cell_lt h.c0) (by simp)]; exact h.c0, by rw [t.cell (cell_lt h.c1) (by simp)]; exact h.c1, by rw [t.cell (cell_lt h.c2) (by simp)]; exact h.c2, by rw [t.cell (cell_lt h.c3) (by simp)]; exact h.c3, by rw [t.cell (cell_lt h.c4) (by simp)]; exact h.c4⟩
theorem B5.new (w : World) (x0 x1 x2 x3 x4 : Value) (T : TypeId) : B5 (w.alloc (.cells #[x0, x1, x2, x3, x4] T)) w.heap.size x0 x1 x2 x3 x4 := ⟨by simp [go_sem], by simp [go_sem], by simp [go_sem], by simp [go_sem], by simp [go_sem]⟩
end Go.Tcn
namespace Go.Proofs.YteebapopeaafhaaDoor
open Go.RowKit Go.Tcn
set_option linter.unusedVariables false
set_option linter.unusedSimpArgs false
set_option maxRecDepth 100000 in
set_option maxHeartbeats 4000000 in
theorem im_R1 (w : World) (g : Nat) (am : Option Addr) (n cm : Nat) (hg : w.cell? ⟨g, 3, none⟩ = some (.slice am n cm)) (x : Int) :
    Calls Tryd.prog 45 #[.int .i64 x, .pointer (some ⟨g, 0, none⟩)] w fun e w' => e = .returned (.bool (expB n x)) ∧ w = w' := by
  have hx : expB n x = (decide (0 ≤ x) && decide (x < (n : Int))) := by unfold expB; exact Bool.decide_and _ _
  by_cases h0 : 0 ≤ x
  · have d0 : decide (0 ≤ x) = true := decide_eq_true h0
    have HX := Lib.hid hx; clear hx
    go_enter Tryd.func45, Tryd.ntmps45
    go_wp2_with fail
    go_ret
    exact ⟨by rw [HX.out, d0]; rfl, rfl⟩
  · have d0 : decide (0 ≤ x) = false := decide_eq_false h0
    have HX := Lib.hid hx; clear hx
    go_enter Tryd.func45, Tryd.ntmps45
    go_wp2_with fail
    go_ret
    exact ⟨by rw [HX.out, d0]; rfl, rfl⟩
set_option maxRecDepth 100000 in
set_option maxHeartbeats 4000000 in
theorem im_all_int_1 (w : World) (b g : Nat) (am : Option Addr) (n cm : Nat) (hg : w.cell? ⟨g, 3, none⟩ = some (.slice am n cm)) (x : Int) (hb : w.cell? ⟨b, 0, none⟩ = some (.func (.func 45) #[] #[.pointer (some ⟨g, 0, none⟩)])) :
    Calls Tryd.prog 78 #[.int .i64 x, .pointer (some ⟨b, 0, none⟩)] w fun e w' => e = .returned (.bool (!expB n x)) ∧ w = w' := by
  go_enter Tryd.func78, Tryd.ntmps78
  go_wp2_with fail
  refine (im_R1 _ g am n cm hg x).mono ?_
  rintro e w1 ⟨rfl, rfl⟩
  go_wp2_with fail
  go_ret
  exact ⟨rfl, rfl⟩
set_option maxRecDepth 100000 in
set_option maxHeartbeats 4000000 in
theorem im_idx_int (w : World) (b g : Nat) (am : Option Addr) (n cm : Nat) (hg : w.cell? ⟨g, 3, none⟩ = some (.slice am n cm)) (v : Value) (l : List Int) (h : RInts w [] v l) (hm : l.length ≤ 9223372036854775807) (hb : w.cell? ⟨b, 0, none⟩ = some (.func (.func 45) #[] #[.pointer (some ⟨g, 0, none⟩)])) :
    Calls Tryd.prog 94 #[v, .func (.func 78) #[] #[.pointer (some ⟨b, 0, none⟩)]] w fun e w' => e = .returned (.int .i64 (badF (expB n) l 0)) ∧ w = w' := by
  obtain ⟨a0, c0, rfl⟩ := Src.form h
  go_enter Tryd.func94, Tryd.ntmps94
  go_wp2_with fail
  go_loopw [8] (fun i wz => ∃ k : Nat, k ≤ l.length ∧ i = .int .i64 k ∧ badF (expB n) l 0 = badF (expB n) (l.drop k) k ∧ w = wz) (fun i _ => l.length - (intOf i).toNat)
  case atStart => exact ⟨0, by omega, rfl, rfl, rfl⟩
  case round =>
    obtain ⟨k, hk1, rfl, hf, rfl⟩ := hrel
    by_cases hk : k < l.length
    · obtain ⟨ad, rfl, _, _, hq⟩ := Src.at h (j := k) (by simpa using hk)
      have hq0 : w.cell? (ad.add k) = some (.int .i64 l[k]) := by simpa [ints] using hq
      have hfd := badF_drop (expB n) l k hk
      clear hq
      generalize l[k] = x at *
      rw [hfd] at hf
      have HF := Lib.hid hf; clear hf hfd
      have hone := im_all_int_1 w b g am n cm hg x hb
      go_wp2_with fail
      refine hone.mono ?_
      rintro e w1 ⟨rfl, rfl⟩
      cases he : expB n x
      · go_wp2_with fail
        (first | go_ret | go_ret2 | go_end0)
        exact ⟨by rw [HF.out, if_pos he]; rfl, rfl⟩
      · go_wp2_with fail
        go_roundw
        case rel => exact ⟨k + 1, by omega, by go_num, by rw [HF.out, if_neg (by simp [he])], by first | rfl | trivial⟩
        case measure => simp [intOf]; omega
    · have hn : badF (expB n) l 0 = -1 := by rw [hf, List.drop_eq_nil_of_le (by omega)]; rfl
      clear hf
      go_wp2_with fail
      (first | go_ret | go_ret2 | go_end0)
      exact ⟨by rw [hn]; rfl, rfl⟩
set_option maxRecDepth 100000 in
set_option maxHeartbeats 4000000 in
theorem im_con_int (w : World) (b g : Nat) (am : Option Addr) (n cm : Nat) (hg : w.cell? ⟨g, 3, none⟩ = some (.slice am n cm)) (v : Value) (l : List Int) (h : RInts w [] v l) (hm : l.length ≤ 9223372036854775807) (hb : w.cell? ⟨b, 0, none⟩ = some (.func (.func 45) #[] #[.pointer (some ⟨g, 0, none⟩)])) :
    Calls Tryd.prog 68 #[v, .func (.func 78) #[] #[.pointer (some ⟨b, 0, none⟩)]] w fun e w' => e = .returned (.bool (!l.all (expB n))) ∧ w = w' := by
  have hI := im_idx_int w b g am n cm hg v l h hm hb
  go_enter Tryd.func68, Tryd.ntmps68
  go_wp2_with fail
  refine hI.mono ?_
  rintro e w1 ⟨rfl, rfl⟩
  have hd := badF_all (expB n) l 0
  generalize badF (expB n) l 0 = bb at *
  have HD := Lib.hid hd; clear hd
  go_wp2_with fail
  go_ret
  exact ⟨by rw [← HD.out]; rfl, rfl⟩
set_option maxRecDepth 100000 in
set_option maxHeartbeats 4000000 in
theorem im_all_int (w : World) (g : Nat) (am : Option Addr) (n cm : Nat) (hg : w.cell? ⟨g, 3, none⟩ = some (.slice am n cm)) (v : Value) (l : List Int) (h : RInts w [] v l) (hm : l.length ≤ 9223372036854775807) :
    Calls Tryd.prog 44 #[v, .func (.func 45) #[] #[.pointer (some ⟨g, 0, none⟩)]] w fun e w' => e = .returned (.bool (l.all (expB n))) ∧ Tch [] w w' := by
  have hmf : ∀ (fn : Fn) (first cap : Array Value) (w : World), (Instr.makeFunc fn first cap).run Tryd.prog w = .ok (.func fn first cap) w := fun _ _ _ _ => rfl
  obtain ⟨V, hVd⟩ : ∃ V, V = w.alloc (.cells #[.func (.func 45) #[] #[.pointer (some ⟨g, 0, none⟩)]] 78) := ⟨_, rfl⟩
  have tA : Tch [] w V := by rw [hVd]; exact (Tch.refl [] w).alloc _
  have hb : V.cell? ⟨w.heap.size, 0, none⟩ = some (.func (.func 45) #[] #[.pointer (some ⟨g, 0, none⟩)]) := by rw [hVd]; simp [go_sem]
  have hg' : V.cell? ⟨g, 3, none⟩ = some (.slice am n cm) := by rw [tA.cell (cell_lt hg) (by simp)]; exact hg
  have hC := im_con_int V w.heap.size g am n cm hg' v l (h.tch tA (by simp)) hm hb
  go_enter Tryd.func44, Tryd.ntmps44
  go_upto_region 1 with fail
  rw [← hVd]
  clear hVd
  go_wp2_with fail
  refine hC.mono ?_
  rintro e w1 ⟨rfl, rfl⟩
  cases he : l.all (expB n)
  · go_wp2_with fail
    go_ret
    exact ⟨by rw [he]; rfl, tA⟩
  · go_wp2_with fail
    go_ret
    exact ⟨by rw [he]; rfl, tA⟩

set_option maxRecDepth 100000 in
set_option maxHeartbeats 8000000 in
theorem im_Right (w : World) (i : Img) (vf vi vm ve : Value) (hf : RInts w [] vf i.fields) (hi : RImps w [] vi i.imports) (hm : RMths w [] vm i.methods) (he : RInts w [] ve i.exports) (hz : ImgZ i) (hV : ∀ nm w', nm.length ≤ 16 → Tch [] w w' → Calls Tryd.prog 66 #[.string ⟨nm.toArray⟩] w' fun e w'' => e = .returned (.bool (Lib.validD nm)) ∧ Tch [] w' w'') :
    Calls Tryd.prog 19 #[.agg #[.string ⟨i.name.toArray⟩, vf, vi, vm, ve]] w fun e w' => e = .returned (.bool (imgB i)) ∧ Tch [] w w' := by
  obtain ⟨z1, z2, z3, z4, z5, z6⟩ := hz
  obtain ⟨af, cf, rfl⟩ := Src.form hf
  obtain ⟨ai, ci, rfl⟩ := RImps.form hi
  obtain ⟨am, cm, rfl⟩ := RMths.form hm
  obtain ⟨ae, ce, rfl⟩ := Src.form he
  have hmf : ∀ (fn : Fn) (first cap : Array Value) (w : World), (Instr.makeFunc fn first cap).run Tryd.prog w = .ok (.func fn first cap) w := fun _ _ _ _ => rfl
  obtain ⟨V, hVd⟩ : ∃ V, V = w.alloc (.cells #[.string ⟨i.name.toArray⟩, .slice af i.fields.length cf, .slice ai i.imports.length ci, .slice am i.methods.length cm, .slice ae i.exports.length ce] 29) := ⟨_, rfl⟩
  have tV : Tch [] w V := by rw [hVd]; exact (Tch.refl [] w).alloc _
  have hB : ∀ W, Tch [] V W → B5 W w.heap.size (.string ⟨i.name.toArray⟩) (.slice af i.fields.length cf) (.slice ai i.imports.length ci) (.slice am i.methods.length cm) (.slice ae i.exports.length ce) := fun W t => by
    refine B5.tch ?_ t
    rw [hVd]; exact B5.new _ _ _ _ _ _ _
  have kN := fun W (t : Tch [] V W) => im_IsName W i.name (fun h16 w' t' => hV _ w' h16 ((tV.then t).then t'))
  have kF := fun W (t : Tch [] V W) => im_kinds W _ i.fields (hf.tch (tV.then t) (by simp)) z1 8
  have kI := fun W (t : Tch [] V W) => im_all_imp W _ i.imports (hi.tch (tV.then t) (by simp)) z2 z3 (fun nm w' h16 t' => hV nm w' h16 ((tV.then t).then t'))
  have kM := fun W (t : Tch [] V W) => im_all_mth W _ i.methods (hm.tch (tV.then t) (by simp)) z4 z5
  have kE := fun W (t : Tch [] V W) => im_all_int W w.heap.size am i.methods.length cm (hB W t).c3 _ i.exports (he.tch (tV.then t) (by simp)) z6
  have hib : imgB i = (nameB i.name && kindsB i.fields 8 && decide (i.imports.length ≤ 4) && i.imports.all impB && decide (1 ≤ i.methods.length ∧ i.methods.length ≤ 8) && i.methods.all mthB && firstB i.methods && decide (i.exports.length ≤ 4) && i.exports.all (expB i.methods.length)) := rfl
  have hfm : 0 < i.methods.length → ∃ ad p0 q0 c0 r0, am = some ad ∧ ad.block < w.heap.size ∧ firstB i.methods = (decide (p0 = 0) && decide (r0 = 0)) ∧ (∀ W, Tch [] V W → W.cell? ad = some (.slice q0 p0 c0) ∧ W.cell? ⟨ad.block, ad.off + 1, none⟩ = some (.int .i64 r0)) := fun h0 => by
    obtain ⟨ad, vp, vl, vc, e, hlt, ip, il, ic, hcc⟩ := RMths.at hm h0
    obtain ⟨q0, c0, rfl⟩ := Src.form ip
    refine ⟨ad, (i.methods[0]).params.length, q0, c0, (i.methods[0]).result, e, hlt, ?_, fun W t => ?_⟩
    · generalize hms : i.methods = ms at *
      cases ms with
      | nil => simp at h0
      | cons m ms => rfl
    · have tW := tV.then t
      have e0 := hcc 0 _ rfl
      have e1 := hcc 1 _ rfl
      rw [Nat.zero_mul, Addr_add_zero] at e0 e1
      rw [Addr_add_zero] at e0
      have ea : ad.add 1 = ⟨ad.block, ad.off + 1, none⟩ := by simp [Addr.add]
      rw [ea] at e1
      exact ⟨by rw [tW.cell hlt (by simp)]; exact e0, by rw [tW.cell (p := ⟨ad.block, ad.off + 1, none⟩) hlt (by simp)]; exact e1⟩
  clear hf hi hm he
  go_enter Tryd.func19, Tryd.ntmps19
  go_upto_region 1 with fail
  rw [← hVd]
  clear hVd hV
  have HIB := Lib.hid hib; clear hib
  obtain ⟨b0, b1, b2, b3, b4⟩ := hB V (Tch.refl _ _)
  go_wp2_with fail
  refine (kN V (Tch.refl _ _)).mono ?_
  rintro e w1 ⟨rfl, t1⟩
  clear b0 b1 b2 b3 b4 kN
  obtain ⟨b0, b1, b2, b3, b4⟩ := hB w1 t1
  cases hn : nameB i.name
  · go_wp2_with fail
    go_ret
    exact ⟨by rw [HIB.out, hn]; rfl, tV.then t1⟩
  go_wp2_with fail
  refine (kF w1 t1).mono ?_
  rintro e w2 ⟨rfl, rfl⟩
  cases hkf : kindsB i.fields 8
  · go_wp2_with fail
    go_ret
    exact ⟨by rw [HIB.out, hn, hkf]; rfl, tV.then t1⟩
  by_cases hl4 : i.imports.length ≤ 4
  · have d4 : decide ((4 : Int) < (i.imports.length : Int)) = false := decide_eq_false (by omega)
    have D4 := Lib.hid (decide_eq_true hl4)
    go_wp2_with fail
    refine (kI w1 t1).mono ?_
    rintro e w2 ⟨rfl, t2⟩
    have t12 := t1.then t2
    clear b0 b1 b2 b3 b4 kI kF
    obtain ⟨b0, b1, b2, b3, b4⟩ := hB w2 t12
    cases hai : i.imports.all impB
    · go_wp2_with fail
      go_ret
      exact ⟨by rw [HIB.out, hn, hkf, D4.out, hai]; rfl, tV.then t12⟩
    clear t2
    by_cases hl8 : 1 ≤ i.methods.length ∧ i.methods.length ≤ 8
    · have D8 := Lib.hid (decide_eq_true hl8)
      obtain ⟨ad, p0, q0, c0, r0, rfl, hadl, hfb, hcc⟩ := hfm (by omega)
      have d5 : decide ((i.methods.length : Int) < 1) = false := decide_eq_false (by omega)
      have d6 : decide ((8 : Int) < (i.methods.length : Int)) = false := decide_eq_false (by omega)
      have HFB := Lib.hid hfb; clear hfb hfm
      go_wp2_with fail
      refine (kM w2 t12).mono ?_
      rintro e w3 ⟨rfl, t3⟩
      have t13 := t12.then t3
      clear b0 b1 b2 b3 b4 kM
      obtain ⟨b0, b1, b2, b3, b4⟩ := hB w3 t13
      cases ham : i.methods.all mthB
      · go_wp2_with fail
        go_ret
        exact ⟨by rw [HIB.out, hn, hkf, D4.out, hai, D8.out, ham]; rfl, tV.then t13⟩
      obtain ⟨m0, m1⟩ := hcc w3 t13
      clear hcc
      by_cases hp0 : p0 = 0
      · subst hp0
        by_cases hr0 : r0 = 0
        · subst hr0
          have hb1 : firstB i.methods = true := by rw [HFB.out]; rfl
          have HB := Lib.hid hb1; clear hb1 HFB
          by_cases hle : i.exports.length ≤ 4
          · have D9 := Lib.hid (decide_eq_true hle)
            have d7 : decide ((i.exports.length : Int) ≤ 4) = true := decide_eq_true (by omega)
            go_wp2_with fail
            refine (kE w3 t13).mono ?_
            rintro e w4 ⟨rfl, t4⟩
            go_wp2_with fail
            go_ret
            exact ⟨by rw [HIB.out, hn, hkf, D4.out, hai, D8.out, ham, HB.out, D9.out]; simp, tV.then (t13.then t4)⟩
          · have D9 := Lib.hid (decide_eq_false hle)
            have d7 : decide ((i.exports.length : Int) ≤ 4) = false := decide_eq_false (by omega)
            go_wp2_with fail
            go_ret
            exact ⟨by rw [HIB.out, hn, hkf, D4.out, hai, D8.out, ham, HB.out, D9.out]; rfl, tV.then t13⟩
        · have hr1 : (r0 == 0) = false := beq_eq_false_iff_ne.2 hr0
          have hb1 : firstB i.methods = false := by rw [HFB.out]; simp [hr0]
          have HB := Lib.hid hb1; clear hb1 HFB
          go_wp2_with fail
          go_ret
          exact ⟨by rw [HIB.out, hn, hkf, D4.out, hai, D8.out, ham, HB.out]; rfl, tV.then t13⟩
      · have hb1 : firstB i.methods = false := by rw [HFB.out]; simp [hp0]
        have HB := Lib.hid hb1; clear hb1 HFB
        have d7 : decide ((0 : Int) < (p0 : Int)) = true := decide_eq_true (by omega)
        go_wp2_with fail
        go_ret
        exact ⟨by rw [HIB.out, hn, hkf, D4.out, hai, D8.out, ham, HB.out]; rfl, tV.then t13⟩
    · have D8 := Lib.hid (decide_eq_false hl8)
      have hcs : decide ((i.methods.length : Int) < 1) = true ∨ (decide ((i.methods.length : Int) < 1) = false ∧ decide ((8 : Int) < (i.methods.length : Int)) = true) := by
        simp only [decide_eq_true_eq, decide_eq_false_iff_not]; omega
      rcases hcs with d5 | ⟨d5, d6⟩
      · go_wp2_with fail
        go_ret
        exact ⟨by rw [HIB.out, hn, hkf, D4.out, hai, D8.out]; rfl, tV.then t12⟩
      · go_wp2_with fail
        go_ret
        exact ⟨by rw [HIB.out, hn, hkf, D4.out, hai, D8.out]; rfl, tV.then t12⟩
  · have d4 : decide ((4 : Int) < (i.imports.length : Int)) = true := decide_eq_true (by omega)
    have D4 := Lib.hid (decide_eq_false hl4)
    go_wp2_with fail
    go_ret
    exact ⟨by rw [HIB.out, hn, hkf, D4.out]; rfl, tV.then t1⟩
end Go.Proofs.YteebapopeaafhaaDoor
