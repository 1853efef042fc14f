/-
  STATEMENT: ImageReads: any bytes are an applet, or refused, as the document says: the walk. Conditions: utf8's tables and the bins as they are laid; the raw statements and the bytes fit in memory.
-/
import Derived.Test.YtapephelfijcbaaGreatDoorHImc
import Derived.Test.YtapephelfijcbaaGreatDoorHRfl
import Derived.Test.YtapephelfijcbaaGreatDoorHRfd
import Derived.Test.YtapephelfijcbaaGreatDoorHRfs
import Derived.Test.YtapephelfijcbaaGreatDoorHTail
import Derived.OpenShut
namespace Go.Tcn
open Go.RowKit
set_option linter.unusedVariables false
set_option linter.unusedSimpArgs false
theorem block_cells {w w' : World} {g : Nat} {cs : Array Value} {T : TypeId} {fr : Nat × Nat} (h : w.heap[g]? = some (.cells cs T fr)) (t : Tch [] w w') : ∀ (a : Nat) u, cs.toList[a]? = some u → w'.cell? ((⟨g, 0, none⟩ : Addr).add a) = some u :=
  fun a u hu => World.news_of_block ((t.block g (heap_lt h) (by simp)).trans h) a u hu
theorem xor_byte (a b : Int) : 0 ≤ bits .xor .u8 a b ∧ bits .xor .u8 a b ≤ 255 := by
  have h := wf_bits .xor .u8 a b
  simp [Lit.wf, IntKind.min, IntKind.max, IntKind.signed, IntKind.bits] at h
  exact h
theorem Byt.set {q : List Int} (h : Byt q) (m : Nat) {y : Int} (hy : 0 ≤ y ∧ y ≤ 255) : Byt (q.set m y) := fun x hx => by
  rcases List.mem_or_eq_of_mem_set hx with hx | hx
  · exact h x hx
  · rw [hx]; exact hy
theorem nameOf_ok (k : Int) : nameB (nameOf k) = true := by
  unfold nameOf
  split
  · decide +kernel
  · split
    · decide +kernel
    · split
      · decide +kernel
      · decide +kernel
theorem app_right (k : Int) (n : Nat) (c0 c1 c2 : List Ins) (h0 : CodeOk c0) (h1 : CodeOk c1) (h2 : CodeOk c2) : imgB (appI k n c0 c1 c2) = true := by
  obtain ⟨a0, b0, d0⟩ := h0
  obtain ⟨a1, b1, d1⟩ := h1
  obtain ⟨a2, b2, d2⟩ := h2
  have i0 : c0.all insB = true := List.all_eq_true.2 a0
  have i1 : c1.all insB = true := List.all_eq_true.2 a1
  have i2 : c2.all insB = true := List.all_eq_true.2 a2
  unfold imgB appI
  simp [nameOf_ok, impB, mthB, i0, i1, i2, kindsB, kindB, resB, firstB, expB, b0, b1, b2, d0, d1, d2]
theorem app_short (k : Int) (n : Nat) (c0 c1 c2 : List Ins) (h0 : CodeOk c0) (h1 : CodeOk c1) (h2 : CodeOk c2) : (encImg (appI k n c0 c1 c2)).length ≤ 4000 := by
  have hB := app_right k n c0 c1 c2 h0 h1 h2
  have e1 : (appI k n c0 c1 c2).imports.length = 2 := rfl
  have e2 : (appI k n c0 c1 c2).methods.length = 3 := rfl
  generalize appI k n c0 c1 c2 = i at *
  obtain ⟨h1, h2, h3, h4, h5⟩ := imgB_le hB
  have k1 := flatMap_le (en := encImp) (l := i.imports) (k := 30) (fun y hy => encImp_le (h3.2 y hy))
  have k2 := flatMap_le (en := encMth) (l := i.methods) (k := 700) (fun y hy => encMth_le (h4.2 y hy))
  rw [e1] at k1
  rw [e2] at k2
  unfold encImg encBody head5
  simp only [List.length_append, encS_le, encN_le, putN_length, List.length_cons, List.length_nil]
  omega
end Go.Tcn
namespace Go.Proofs.YtapephelfijcbaaGreatDoor
open Go.RowKit Go.Tcn
set_option linter.unusedVariables false
set_option linter.unusedSimpArgs false
/-- All bytes, in new memory. -/
theorem hand_FewAll (w : World) (x : Value) (b : List Int) (hx : Src w [] x b.length (bys b)) (hb : b.length ≤ 140737488355328) :
    Calls Tryz.prog 12 #[x, .int .i64 b.length] w fun e w' => ∃ ao cap, e = .returned (.slice ao b.length cap) ∧ w'.ownsRow 0 5 1 (.slice ao b.length cap) b.length (bys b) ∧ (∀ g, (Value.slice ao b.length cap).ownBlock = some g → w.heap.size ≤ g) ∧ Tch [] w w' := by
  have := hand_Few w [] x b hx b.length (by omega) (by omega) (by omega)
  rw [List.take_length] at this
  exact this.mono fun e w' ⟨ao, cap, h1, h2, h4, h3⟩ => ⟨ao, cap, h1, h2, h4, h3⟩
/-- Applet, its image told. -/
theorem hand_AppletR (w : World) (hG : Bins w 2) (k : Int) (hk : I6 k) (xv : Value) (l : List Rw) (hl : Raws w xv l) (hll : l.length ≤ 5000000000000) (hcap : ∀ ao n c, xv = .slice ao n c → n ≤ c) :
    Calls Tryz.prog 13 #[.int .i64 k, xv] w fun e w' => ∃ (i : Img) (vf vi vm ve : Value), e = .returned (.agg #[.string ⟨i.name.toArray⟩, vf, vi, vm, ve]) ∧ RInts w' [] vf i.fields ∧ RImps w' [] vi i.imports ∧ RMths w' [] vm i.methods ∧ RInts w' [] ve i.exports ∧ ImgZ i ∧ imgB i = true ∧ (encImg i).length ≤ 4000 ∧ Tch [] w w' := by
  refine (hand_Applet w hG k hk xv l hl hll hcap [] (by simp)).mono ?_
  rintro e w1 ⟨cs, c0, c1, c2, rfl, ⟨vf, vi, vm, ve, hcs, r1, r2, r3, r4⟩, k0, k1, k2, t1⟩
  have hz := app_z k l.length c0 c1 c2 k0 k1 k2
  have hr := app_right k l.length c0 c1 c2 k0 k1 k2
  have hs := app_short k l.length c0 c1 c2 k0 k1 k2
  generalize appI k l.length c0 c1 c2 = i at *
  obtain rfl : cs = #[.string ⟨i.name.toArray⟩, vf, vi, vm, ve] := by
    apply Array.toList_inj.1
    rw [hcs]
    rfl
  exact ⟨i, vf, vi, vm, ve, rfl, r1, r2, r3, r4, hz, hr, hs, t1⟩
set_option maxRecDepth 100000 in
set_option maxHeartbeats 16000000 in
theorem law4_ImageReads (w : World) (hG : Bins w 2) (k : Int) (hk : I6 k) (xv : Value) (l : List Rw) (hl : Raws w xv l) (hll : l.length ≤ 5000000000000) (hcap : ∀ ao n c, xv = .slice ao n c → n ≤ c) (rx : Value) (raw : List Int) (hr : Src w [] rx raw.length (bys raw)) (hrb : Byt raw) (hrl : raw.length ≤ 140737488351232) (how : Int) (hhow : I6 how) (av : Value) (ats : List Int) (ha : RInts w [] av ats) (haI : ∀ x ∈ ats, I6 x) (ham : ats.length ≤ 9223372036854775807) (bv : Value) (bs : List Int) (hb : Src w [] bv bs.length (bys bs)) (hbb : Byt bs) (hbl : bs.length ≤ 140737488351232) (hV : ∀ nm w', nm.length ≤ 16 → Tch [] w w' → Calls Tryz.prog 77 #[.string ⟨nm.toArray⟩] w' fun e w'' => e = .returned (.bool (Lib.validD nm)) ∧ Tch [] w' w'') :
    Calls Tryz.prog 4 #[.int .i64 k, xv, rx, .int .i64 how, av, bv] w fun e w' => e = .returned (.bool true) ∧ Tch [] w w' := by
  obtain ⟨i0, hi0, hz00, hz01, hz02⟩ := info_parts info_u8
  have hKn : ∀ W, Tch [] w W → Calls Tryz.prog 9 #[] W fun e w' => e = .returned (.bool true) ∧ Tch [] W w' := fun W t => law4_known W (fun nm w' h16 t' => hV nm w' h16 (t.then t'))
  have hAp := fun (W : World) (t : Tch [] w W) => hand_AppletR W (hG.tch t) k hk xv l (hl.tch t) hll hcap
  obtain ⟨aox, nx, capx, hxv⟩ : ∃ ao n c, xv = .slice ao n c := by
    obtain ⟨ao, c, h, _⟩ := hl.ex
    exact ⟨ao, _, c, h⟩
  subst hxv
  obtain ⟨ar, cr, rfl⟩ := Src.form hr
  obtain ⟨aa, ca, rfl⟩ := Src.form ha
  obtain ⟨ab, cb, rfl⟩ := Src.form hb
  have hAt := fun (W : World) (t : Tch [] w W) (j : Nat) (hj : j < ats.length) => Src.at (RInts.tch ha t (by simp)) (j := j) (by simpa using hj)
  have hBt := fun (W : World) (t : Tch [] w W) (j : Nat) (hj : j < bs.length) => Src.at (hb.tch t (by simp)) (j := j) (by simpa [bys] using hj)
  clear hG hl hll hcap ha
  go_enter Tryz.func4, Tryz.ntmps4
  go_wp2_with fail
  refine (hand_FewAll w _ raw hr (by omega)).mono ?_
  rintro e w1 ⟨ao1, cap1, rfl, ho1, _, t1⟩
  have hS1 := src_of_owns ho1 [] (by simp)
  clear hr ho1
  go_upto_if 27 with fail
  go_cut [13] (fun v wz => ∃ (bl : List Int) (aob : Option Addr) (capb : Nat), v = .slice aob bl.length capb ∧ Src wz [] v bl.length (bys bl) ∧ Byt bl ∧ bl.length ≤ 140737488355328 ∧ Tch [] w wz)
  case first =>
    by_cases hm5n : ¬ 0 < how.tmod 5
    · have hm5 := hm5n
      have hd5 : decide (0 < how.tmod 5) = false := decide_eq_false hm5
      go_wp2_with fail
      go_meet
      case rel => exact ⟨raw, ao1, cap1, rfl, hS1, hrb, by omega, t1⟩
    have hm5 : 0 < how.tmod 5 := by omega
    have hd5 : decide (0 < how.tmod 5) = true := decide_eq_true hm5
    go_wp2_with fail
    refine (hAp w1 t1).mono ?_
    rintro e w2 ⟨i, vf, vi, vm, ve, rfl, r1, r2, r3, r4, hz, hB, hsh, t2⟩
    obtain ⟨af, cf, rfl⟩ := Src.form r1
    obtain ⟨ai, ci, rfl⟩ := RImps.form r2
    obtain ⟨am, cm, rfl⟩ := RMths.form r3
    obtain ⟨ae, ce, rfl⟩ := Src.form r4
    have T2 := t1.then t2
    have hLy := rf_Lay_ok w2 i _ _ _ _ r1 r2 r3 r4 hz (fun nm w' h16 t' => hV nm w' h16 (T2.then t')) hB
    have hpos : 0 < (encImg i).length := by simp [encImg, head5]
    have heb := encImg_byt i
    clear hAp r1 r2 r3 r4 hz hB hS1 t2
    generalize encImg i = eb at hLy hsh hpos heb
    go_wp2_with fail
    refine hLy.mono ?_
    rintro e w3 ⟨ao3, cap3, rfl, hS3, t3⟩
    have T3 := T2.then t3
    clear hLy
    go_wp2_with fail
    refine (hand_FewAll w3 _ eb hS3 (by omega)).mono ?_
    rintro e w4 ⟨ao4, cap4, rfl, ho4, hgx4, t4⟩
    have T4 := T3.then t4
    have hS4 := src_of_owns ho4 [] (by simp)
    have hge4 : ∀ g, (Value.slice ao4 eb.length cap4).ownBlock = some g → w.heap.size ≤ g := fun g hg => Nat.le_trans T3.size (hgx4 g hg)
    have hn4 : ao4 = none → False := fun h => by
      subst h
      rcases hS4.ex with ⟨_, h2, _⟩ | ⟨_, _, h2, _⟩
      · omega
      · simp at h2
    clear hS3
    obtain ⟨p, hp, hp0⟩ : ∃ p : Int, how % 4 = p ∧ (p = 0 ∨ p = 1 ∨ p = 2 ∨ p = 3) := ⟨_, rfl, by omega⟩
    have hPk := hand_Pick how 4 hhow (by omega) (by omega) w4
    rw [hp] at hPk
    clear hp
    go_wp2_with fail
    refine hPk.mono ?_
    rintro e w' ⟨rfl, rfl⟩
    clear hPk
    rcases hp0 with rfl | rfl | rfl | rfl
    · obtain ⟨g4, rfl⟩ : ∃ g, ao4 = some ⟨g, 0, none⟩ := by
        rcases ho4.2 with ⟨h, h0⟩ | ⟨g, cap, cur, hv, _⟩
        · omega
        · simp only [Value.slice.injEq] at hv
          exact ⟨g, hv.1⟩
      obtain ⟨n, hn⟩ : ∃ n, n = eb.length := ⟨_, rfl⟩
      have hnle : n ≤ 4000 := by omega
      have hn0 : 0 < n := by omega
      have hg4 : w.heap.size ≤ g4 := hge4 g4 rfl
      rw [← hn] at ho4 ⊢
      have HN := Lib.hid hn
      clear hn hS4
      have hdn : decide ((0 : Int) < (n : Int)) = true := decide_eq_true (by omega)
      go_wp2_with fail
      go_loopw [16] (fun jv wz => ∃ (k : Nat) (q : List Int), k ≤ 3 ∧ jv = .int .i64 k ∧ q.length = n ∧ Byt q ∧ wz.ownsRow 0 5 1 (.slice (some ⟨g4, 0, none⟩) n cap4) n (bys q) ∧ Tch [] w wz) (fun jv _ => 3 - (intOf jv).toNat)
      case atStart => exact ⟨0, eb, by omega, rfl, HN.out.symm, heb, ho4, T4⟩
      case round =>
        obtain ⟨k, q, hk, rfl, hql, hqb, hown, tq⟩ := hrel
        clear ho4
        have HQ := Lib.hid hql; clear hql
        have hfin : ∃ (bl : List Int) (aob : Option Addr) (capb : Nat), (Value.slice (some ⟨g4, 0, none⟩) n cap4 : Value) = .slice aob bl.length capb ∧ Src wr [] (.slice (some ⟨g4, 0, none⟩) n cap4) bl.length (bys bl) ∧ Byt bl ∧ bl.length ≤ 140737488355328 ∧ Tch [] w wr :=
          ⟨q, _, cap4, by rw [HQ.out], by rw [HQ.out]; exact src_of_owns hown [] (by simp), hqb, by rw [HQ.out]; omega, tq⟩
        have HF := Lib.hid hfin; clear hfin
        by_cases ka : k < ats.length
        · have da : decide ((k : Int) < (ats.length : Int)) = true := decide_eq_true (by omega)
          by_cases kb : k < bs.length
          · have db : decide ((k : Int) < (bs.length : Int)) = true := decide_eq_true (by omega)
            by_cases k3 : k < 3
            · have d3 : decide ((k : Int) < 3) = true := decide_eq_true (by omega)
              obtain ⟨ad, hax, hadl, _, hqa⟩ := hAt wr tq k ka
              obtain ⟨bd, hbx, hbdl, _, hqb2⟩ := hBt wr tq k kb
              have hIa := haI _ (List.getElem_mem ka)
              have hca : ∀ x : TW [] wr, x.w.cell? (ad.add k) = some (.int .i64 ats[k]) := fun x => by
                rw [x.t.cell (cell_lt hqa) (by simp)]; simpa [ints] using hqa
              have hcb : ∀ x : TW [] wr, x.w.cell? (bd.add k) = some (.int .u8 bs[k]) := fun x => by
                rw [x.t.cell (cell_lt hqb2) (by simp)]; simpa [bys] using hqb2
              subst hax hbx
              clear hqa hqb2
              generalize ats[k] = x0 at *
              generalize bs[k] = y0 at *
              obtain ⟨m, hm, hmn⟩ : ∃ m : Nat, x0 % (n : Int) = m ∧ m < n := by
                have e1 := Int.emod_nonneg x0 (show (n : Int) ≠ 0 by omega)
                have e2 := Int.emod_lt_of_pos x0 (show (0 : Int) < (n : Int) by omega)
                exact ⟨(x0 % (n : Int)).toNat, by omega, by omega⟩
              have hP : ∀ x : TW [] wr, Calls Tryz.prog 6 #[.int .i64 x0, .int .i64 (n : Int)] x.w fun e w' => e = .returned (.int .i64 (m : Int)) ∧ x.w = w' := fun x => by
                have h := hand_Pick x0 n hIa (by omega) (by omega) x.w
                rw [hm] at h
                exact h
              have hjq : m < q.length := by rw [HQ.out]; exact hmn
              have cq0 := owns_byte hown m hjq
              have cq : ∀ x : TW [] wr, x.w.cell? ⟨g4, m, none⟩ = some (.int .u8 q[m]) := fun x => by
                rw [x.t.cell (cell_lt cq0) (by simp)]; exact cq0
              have fq0 : wr.frozen? ⟨g4, m, none⟩ = false := hown.frozenAt m
              have HM := Lib.hid hm; clear hm
              have HOW := Lib.hid hown; clear hown
              generalize q[m] = c at *
              go_wp2_with fail
              go_upto_region 11 with fail
              refine wp_region_tch_tail (L := []) (w0 := wr) 16 (by kernel_rfl) (by kernel_rfl) (Tch.refl [] wr) ?_
              simp only [List.take_succ_cons, List.take_zero, List.drop_succ_cons, List.drop_zero]
              repeat (go_big_quiet_step ((first | rfl | (go_at_call 6; exact tch_of_same (hP _)))))
              refine wpQuiet_nil ?_
              intro w5 t5
              have own5 := ownsRow_tch HOW.out t5 (fun _ _ => by simp)
              have c5 : w5.cell? ⟨g4, m, none⟩ = some (.int .u8 c) := cq ⟨w5, t5⟩
              have f5 : w5.frozen? ⟨g4, m, none⟩ = false := own5.frozenAt m
              have HO5 := Lib.hid own5
              clear own5 cq hca hcb hP
              go_wp2_with fail
              go_roundw
              case rel => exact ⟨k + 1, q.set m (bits .xor .u8 c y0), by omega, by go_num, by rw [List.length_set, HQ.out], hqb.set m (xor_byte _ _), owns_byte_set HO5.out m _, (tq.then t5).setCell (.inr hg4) _⟩
              case measure => simp [intOf]; omega
            · have d3 : decide ((k : Int) < 3) = false := decide_eq_false (by omega)
              go_wp2_with fail
              go_meet
              case rel => exact HF.out
          · have db : decide ((k : Int) < (bs.length : Int)) = false := decide_eq_false (by omega)
            go_wp2_with fail
            go_meet
            case rel => exact HF.out
        · have da : decide ((k : Int) < (ats.length : Int)) = false := decide_eq_false (by omega)
          go_wp2_with fail
          go_meet
          case rel => exact HF.out
    · by_cases hal : ats.length = 0
      · have hd1 : decide ((0 : Int) < (ats.length : Int)) = false := decide_eq_false (by omega)
        have hd2 : decide (0 < ats.length) = false := decide_eq_false (by omega)
        clear hal
        go_wp2_with fail
        go_meet
        case rel => exact ⟨eb, ao4, cap4, rfl, hS4, heb, by omega, T4⟩
      · have hpa : 0 < ats.length := by omega
        obtain ⟨ad, hax, hadl, _, hq⟩ := hAt w4 T4 0 (by omega)
        have hq0 : w4.cell? (ad.add 0) = some (.int .i64 (ats[0]'(by omega))) := by simpa [ints] using hq
        have hIa := haI _ (List.getElem_mem (show 0 < ats.length by omega))
        have hq1 := hq0
        rw [Addr_add_zero] at hq1
        subst hax
        clear hq
        generalize ats[0]'(by omega) = x at *
        obtain ⟨n, hn⟩ : ∃ n, n = eb.length := ⟨_, rfl⟩
        have hnle : n ≤ 4000 := by omega
        obtain ⟨m, hm, hmn⟩ : ∃ m : Nat, x % ((n : Int) + 1) = m ∧ m ≤ n := by
          have e1 := Int.emod_nonneg x (show ((n : Int) + 1) ≠ 0 by omega)
          have e2 := Int.emod_lt_of_pos x (show (0 : Int) < (n : Int) + 1 by omega)
          exact ⟨(x % ((n : Int) + 1)).toNat, by omega, by omega⟩
        have hmE : m ≤ eb.length := by rw [← hn]; exact hmn
        have hcap4 : n ≤ cap4 := by
          rcases hS4.ex with ⟨h, h2, _⟩ | ⟨ad, c, h, hm, _⟩
          · omega
          · simp only [Value.slice.injEq] at h
            omega
        have hP := hand_Pick x ((n : Int) + 1) hIa (by omega) (by omega) w4
        rw [hm] at hP
        clear hm
        have hSm : Src w4 [] (.slice ao4 m cap4) (eb.take m).length (bys (eb.take m)) := by
          have h := hS4.cut_h (n := m) (sz := 1) hmE
          have e1 : (eb.take m).length = m := by rw [List.length_take, Nat.min_eq_left hmE]
          rw [e1]
          have e2 : bys (eb.take m) = (bys eb).take (m * 1) := by simp [bys]
          rw [e2]
          exact h
        have hcutr : ∀ W, (Instr.slice 30 (.slice ao4 n cap4) none (some (.int .i64 m)) none).run Tryz.prog W = .ok (.slice ao4 m cap4) W := fun W => run_cut_h 30 5 1 Tryz.underlying30 (by kernel_rfl) (by kernel_rfl) ao4 n cap4 m (Nat.le_trans hmn hcap4) W
        rw [← hn]
        have HN := Lib.hid hn
        have hml : (eb.take m).length = m := by rw [List.length_take, Nat.min_eq_left hmE]
        have hm47 : m ≤ 140737488355328 := Nat.le_trans hmn (Nat.le_trans hnle (by decide))
        rw [hml] at hSm
        have HML := Lib.hid hml
        clear hn ho4 hS4 hml
        go_wp2_with fail
        refine hP.mono ?_
        rintro e w' ⟨rfl, rfl⟩
        go_wp2_with fail
        go_meet
        case rel => exact ⟨eb.take m, ao4, cap4, by rw [HML.out], by rw [HML.out]; exact hSm, heb.take m, by rw [HML.out]; exact hm47, T4⟩
    · have hbnd : eb.length + bs.length ≤ 9223372036854775807 ∧ (eb.length + bs.length) * 1 ≤ 140737488355328 := by omega
      have hSb := hb.tch T4 (by simp)
      have hown4 := World.ownsRow.lt ho4
      go_wp2_with (at_builtin; refine wpList_append_any _ rfl (.tmp 98) (.tmp 99) 30 rfl 5 i0 (.int .u8 0) 1 1 Tryz.underlying30 hi0 hz00 hz01 hz02 rfl (by decide) (.slice ao4 eb.length cap4) eb.length (bys eb) rfl ho4 [] (.slice ab bs.length cb) bs.length (bys bs) rfl hSb (by simp [bys]) (bys_one bs) hbnd ?_; intro ao5 cap5 w5 hown5 hgrow5 hat5)
      go_meet
      case rel =>
        refine ⟨eb ++ bs, ao5, cap5, by rw [List.length_append], ?_, heb.append hbb, by rw [List.length_append]; omega, ?_⟩
        · rw [List.length_append, bys_append]
          exact src_of_owns hown5 [] (by simp)
        · refine T4.grown hgrow5 (fun g hg => .inr ?_)
          have := hge4 g hg
          omega
    · go_wp2_with fail
      go_meet
      case rel => exact ⟨eb, ao4, cap4, rfl, hS4, heb, by omega, T4⟩
  case rest =>
    obtain ⟨bl, aob, capb, rfl, hS, hB, hL, t⟩ := hcut
    have hR1 := im_Read wc _ bl [] hS hB hL (fun nm w' h16 t' => hV nm w' h16 (t.then t'))
    have hR2 := fun (W : World) (t' : Tch [] wc W) => rf_Read W _ bl [] (hS.tch t' (by simp)) hB hL (fun nm w' h16 t'' => hV nm w' h16 ((t.then t').then t''))
    generalize readImg bl = r at hR1 hR2
    obtain ⟨i, er⟩ := r
    simp only at hR1 hR2
    generalize bl.length = n at *
    clear hB hL hS hAp hAt hBt hS1
    go_wp2_with fail
    refine hR1.mono ?_
    rintro e w2 ⟨vf, vi, vm, ve, rfl, r1, r2, r3, r4, hz, t2⟩
    obtain ⟨xf, xd, rfl⟩ := Src.form r1
    obtain ⟨xi, xe, rfl⟩ := RImps.form r2
    obtain ⟨xm, xh, rfl⟩ := RMths.form r3
    obtain ⟨xk, xl, rfl⟩ := Src.form r4
    clear hR1
    obtain ⟨g, hg⟩ : ∃ g, g = w2.heap.size := ⟨_, rfl⟩
    obtain ⟨W2, hW2⟩ : ∃ W, W = w2.alloc (.cells #[.string ⟨i.name.toArray⟩, .slice xf i.fields.length xd, .slice xi i.imports.length xe, .slice xm i.methods.length xh, .slice xk i.exports.length xl] 27) := ⟨_, rfl⟩
    have tW2 : Tch [] w2 W2 := by rw [hW2]; exact (Tch.refl [] w2).alloc _
    have hX2 : W2.heap[g]? = some (.cells #[.string ⟨i.name.toArray⟩, .slice xf i.fields.length xd, .slice xi i.imports.length xe, .slice xm i.methods.length xh, .slice xk i.exports.length xl] 27 (0, 0)) := by rw [hW2, hg]; exact heap_alloc_new w2 _
    have T2 := t2.then tW2
    go_upto_region 18 with fail
    rw [← hW2, ← hg]
    clear hW2 hg
    go_wp2_with fail
    refine (hR2 W2 T2).mono ?_
    rintro e w3 ⟨wf, wi, wm, we, rfl, s1, s2, s3, s4, _, t3⟩
    obtain ⟨yf, yd, rfl⟩ := Src.form s1
    obtain ⟨yi, ye, rfl⟩ := RImps.form s2
    obtain ⟨ym, yh, rfl⟩ := RMths.form s3
    obtain ⟨yk, yl, rfl⟩ := Src.form s4
    clear hR2
    obtain ⟨g3, hg3⟩ : ∃ g, g = w3.heap.size := ⟨_, rfl⟩
    obtain ⟨W3, hW3⟩ : ∃ W, W = w3.alloc (.cells #[.string ⟨i.name.toArray⟩, .slice yf i.fields.length yd, .slice yi i.imports.length ye, .slice ym i.methods.length yh, .slice yk i.exports.length yl] 27) := ⟨_, rfl⟩
    have tW3 : Tch [] w3 W3 := by rw [hW3]; exact (Tch.refl [] w3).alloc _
    have hX3 : W3.heap[g3]? = some (.cells #[.string ⟨i.name.toArray⟩, .slice yf i.fields.length yd, .slice yi i.imports.length ye, .slice ym i.methods.length yh, .slice yk i.exports.length yl] 27 (0, 0)) := by rw [hW3, hg3]; exact heap_alloc_new w3 _
    have t33 := t3.then tW3
    have hX23 := (t33.block g (heap_lt hX2) (by simp)).trans hX2
    go_upto_region 19 with fail
    rw [← hW3, ← hg3]
    clear hW3 hg3
    have T3 := t.then (T2.then t33)
    have t23 := tW2.then t33
    go_wp2_with fail
    refine (hKn W3 T3).mono ?_
    rintro e w4 ⟨rfl, t4⟩
    have h := rf_Same w4 i i _ _ _ _ _ _ _ _ (r1.tch (t23.then t4) (by simp)) (r2.tch (t23.then t4) (by simp)) (r3.tch (t23.then t4) (by simp)) (r4.tch (t23.then t4) (by simp)) (s1.tch (tW3.then t4) (by simp)) (s2.tch (tW3.then t4) (by simp)) (s3.tch (tW3.then t4) (by simp)) (s4.tch (tW3.then t4) (by simp)) hz hz
    rw [decide_eq_true rfl] at h
    have hcX := block_cells hX23 t4
    have hcY := block_cells hX3 t4
    clear r1 r2 r3 r4 s1 s2 s3 s4 hKn hV
    go_wp2_with (first | (refine wpList_load_agg_w (by rfl) 27 (.tmp 17) rfl ⟨g, 0, none⟩ rfl #[.string ⟨i.name.toArray⟩, .slice xf i.fields.length xd, .slice xi i.imports.length xe, .slice xm i.methods.length xh, .slice xk i.exports.length xl] _ hcX Tryz.underlying27 rfl (by kernel_rfl) ?_) | (refine wpList_load_agg_w (by rfl) 27 (.tmp 19) rfl ⟨g3, 0, none⟩ rfl #[.string ⟨i.name.toArray⟩, .slice yf i.fields.length yd, .slice yi i.imports.length ye, .slice ym i.methods.length yh, .slice yk i.exports.length yl] _ hcY Tryz.underlying27 rfl (by kernel_rfl) ?_) | fail)
    refine h.mono ?_
    rintro e w5 ⟨rfl, t5⟩
    go_wp2_with fail
    go_ret
    exact ⟨by simp, T3.then (t4.then t5)⟩
end Go.Proofs.YtapephelfijcbaaGreatDoor
