/-
  CONTRACTS: image: an applet's bytes. Conditions: utf8's tables as they are laid; sizes of 64 bits.
-/
import Derived.Test.YtapephelfijcbaaGreatDoorHImr
import Derived.Test.YtapephelfijcbaaGreatDoorHLay
import Derived.Test.YtapephelfijcbaaGreatDoorHCodeP
import Derived.Laws.IdiomStrings
import Derived.Laws.AppendOwn
namespace Go.Tcn
open Go.RowKit
set_option linter.unusedVariables false
set_option linter.unusedSimpArgs false
/-- A writer of the call's own, behind world V. -/
structure LJ (T E : TypeId) (V w : World) (p r : Nat) (l : List Int) : Prop where
  wr : Wr w T E p r l
  hp : V.heap.size ≤ p
  hr : V.heap.size ≤ r
  t : Tch [] V w
theorem LJ.step {T E : TypeId} {V w w' : World} {p r : Nat} {l l' : List Int} (h : LJ T E V w p r l) (k : WrTo T E p r l' w w') : ∃ r', LJ T E V w' p r' l' := by
  obtain ⟨r', a, b, c⟩ := k
  have := h.t.size
  have h1 := h.hp
  have h2 := h.hr
  exact ⟨r', a, h1, by omega, h.t.trans c (by simp) (fun i hi hx => by simp at hx; omega)⟩
theorem LJ.ahead {T E : TypeId} {V w w' : World} {p r : Nat} {l : List Int} (h : LJ T E V w p r l) (k : Tch [] w w') : LJ T E V w' p r l :=
  ⟨h.wr.tch k (by simp) (by simp), h.hp, h.hr, h.t.then k⟩
/-- The bytes of a string, in new memory. -/
theorem bytes_conv {P : Program} (src dst e : TypeId) (hs : P.underlying src = some .string) (hd : P.underlying dst = some (.slice e)) (he : P.underlying e = some (.int .u8)) (s : List UInt8) :
    ∃ (cf : World → Nat) (Wf : World → World), ∀ w, (convert src dst (.string ⟨s.toArray⟩)).run P w = .ok (.slice (some ⟨w.heap.size, 0, none⟩) s.length (cf w)) (Wf w) ∧ Tch [] w (Wf w) ∧ ∀ L : List Nat, (∀ i ∈ L, i < w.heap.size) → Src (Wf w) L (.slice (some ⟨w.heap.size, 0, none⟩) s.length (cf w)) s.length (bys (nums s)) := by
  refine ⟨fun w => grownCap w s.length 0 e, fun w => w.drew.alloc (.cells (bytesRow ⟨s.toArray⟩ (grownCap w s.length 0 e)) e ((bytesRow ⟨s.toArray⟩ (grownCap w s.length 0 e)).size, (bytesRow ⟨s.toArray⟩ (grownCap w s.length 0 e)).size + 1)), fun w => ⟨?_, ((Tch.refl [] w).drew).alloc _, fun L hL => ?_⟩⟩
  · exact run_bytes_of_string w src dst e ⟨s.toArray⟩ hs hd he
  · refine ⟨.inr ⟨⟨w.heap.size, 0, none⟩, _, rfl, ?_, fun j u hj => ⟨fun hx => ?_, ?_⟩⟩⟩
    · exact grownCap_ge w s.length 0 e
    · have := hL _ hx
      simp at this
    · have hjl : j < s.length := by
        have := (List.getElem?_eq_some_iff.1 hj).1
        simpa [nums_length] using this
      have hu : u = .int .u8 (s[j].toNat : Int) := by
        simp [bys, nums, hjl] at hj
        exact hj.symm
      have ea : (⟨w.heap.size, 0, none⟩ : Addr).add j = ⟨w.heap.size, j, none⟩ := by
        unfold Addr.add; split <;> simp_all
      rw [ea, hu]
      have hb := bytesRow_at ⟨s.toArray⟩ (grownCap w s.length 0 e) j (by simpa using hjl)
      unfold World.cell?
      rw [show w.heap.size = w.drew.heap.size from rfl, heap_alloc_new]
      simpa using hb
end Go.Tcn
namespace Go.Proofs.YtapephelfijcbaaGreatDoor
open Go.RowKit Go.Tcn
set_option linter.unusedVariables false
set_option linter.unusedSimpArgs false
set_option maxRecDepth 100000 in
set_option maxHeartbeats 4000000 in
theorem im_list (w : World) (p row : Nat) (l : List Int) (L : List Nat) (v : Value) (ys : List Int) (h : Wr w 95 5 p row l) (hy : RInts w L v ys) (hp : p ∈ L) (hr : row ∈ L) (hl : l.length + ys.length + 8 ≤ 140737488355328) (hI : ∀ x ∈ ys, I6 x) :
    Calls Tryz.prog 22 #[.pointer (some ⟨p, 0, none⟩), v] w fun e w' => e = .returned (.tuple #[]) ∧ WrTo 95 5 p row (l ++ encN ys) w w' := by
  obtain ⟨a0, c0, rfl⟩ := Src.form hy
  have mem : ∀ i ∈ [p, row], i < w.heap.size → i ∈ L := fun i hi _ => by simp at hi; rcases hi with rfl | rfl <;> assumption
  go_enter Tryz.func22, Tryz.ntmps22
  go_wp2_with fail
  refine (oct_U8 _ p row l (ys.length : Int) h (by omega) (by omega)).mono ?_
  rintro e w1 ⟨rfl, r1, h1, hr1, t1⟩
  go_wp2_with fail
  go_loopw [12] (fun i wz => ∃ (k r : Nat), k ≤ ys.length ∧ i = .int .i64 k ∧ Wr wz 95 5 p r (l ++ (putN ys.length 1 ++ (ys.take k).flatMap (fun n => putN n 1))) ∧ (r = row ∨ w.heap.size ≤ r) ∧ Tch [p, row] w wz) (fun i _ => ys.length - (intOf i).toNat)
  case atStart => exact ⟨0, r1, by omega, rfl, by simpa using h1, hr1, t1⟩
  case round =>
    obtain ⟨k, r, hk1, rfl, hw, hr2, ht⟩ := hrel
    clear h1
    by_cases hk : k < ys.length
    · obtain ⟨ad, rfl, _, _, hq⟩ := Src.at (hy.tch ht mem) (j := k) (by simpa using hk)
      have hq0 : wr.cell? (ad.add k) = some (.int .i64 ys[k]) := by simpa [ints] using hq
      have hyI := hI ys[k] (List.getElem_mem hk)
      have hfl : ((ys.take k).flatMap (fun n => putN n 1)).length ≤ k * 1 := by
        have := flatMap_le (en := fun n => putN n 1) (l := ys.take k) (k := 1) (fun y _ => by simp [putN_length])
        rw [List.length_take] at this
        omega
      have hO := oct_U8 wr p r _ ys[k] hw hyI (by simp only [List.length_append, putN_length]; omega)
      have hts : (ys.take (k + 1)).flatMap (fun n => putN n 1) = (ys.take k).flatMap (fun n => putN n 1) ++ putN ys[k] 1 := by
        rw [← List.take_append_getElem hk, List.flatMap_append]; simp
      clear hq
      generalize ys[k] = x at *
      have HT := Lib.hid hts; clear hts hfl
      go_wp2_with fail
      refine hO.mono ?_
      rintro e w2 ⟨rfl, r2, h2, hr2', t2⟩
      clear hO
      go_wp2_with fail
      go_roundw
      case rel =>
        refine ⟨k + 1, r2, by omega, by go_num, ?_, by have := ht.size; omega, ht.trans t2 (fun _ _ x => x) (fun i hi hx => by simp at hx ⊢; omega)⟩
        rw [HT.out]
        simpa [List.append_assoc] using h2
      case measure => simp [intOf]; omega
    · have hkk : k = ys.length := by omega
      subst hkk
      go_wp2_with fail
      go_end0
      rw [List.take_length] at hw
      exact ⟨rfl, r, hw, hr2, ht⟩

set_option maxRecDepth 100000 in
theorem info_put5 : head5 = ([] ++ [84, 65, 67, 73]) ++ putN 1 1 := by decide
set_option maxRecDepth 100000 in
set_option maxHeartbeats 8000000 in
theorem im_Lay_ok (w : World) (i : Img) (vf vi vm ve : Value) (hf : RInts w [] vf i.fields) (hi : RImps w [] vi i.imports) (hm : RMths w [] vm i.methods) (he : RInts w [] ve i.exports) (hz : ImgZ i) (hV : ∀ nm w', nm.length ≤ 16 → Tch [] w w' → Calls Tryz.prog 77 #[.string ⟨nm.toArray⟩] w' fun e w'' => e = .returned (.bool (Lib.validD nm)) ∧ Tch [] w' w'') (hB : imgB i = true) :
    Calls Tryz.prog 7 #[.agg #[.string ⟨i.name.toArray⟩, vf, vi, vm, ve]] w fun e w' => ∃ ao cap, e = .returned (.tuple #[.slice ao (encImg i).length cap, .int .i64 0]) ∧ w'.ownsRow 0 5 1 (.slice ao (encImg i).length cap) (encImg i).length (bys (encImg i)) ∧ (∃ g, ao = some ⟨g, 0, none⟩ ∧ w.heap.size ≤ g) ∧ Tch [] w w' := by
  obtain ⟨q1, q2, q3, q4, q5⟩ := imgB_le hB
  have hcv := fun (w : World) (C : Array Value) (n c : Nat) => Lib.run_convert_bytes_const (P := Tryz.prog) w 30 5 C n c Tryz.underlying30 Tryz.underlying5
  obtain ⟨cf, Wf, hconv⟩ := bytes_conv (P := Tryz.prog) 9 30 5 Tryz.underlying9 Tryz.underlying30 Tryz.underlying5 i.name
  have hcv1 := fun w => (hconv w).1
  have hR0 := fun V (tV : Tch [] w V) => im_Right V i vf vi vm ve (hf.tch tV (by simp)) (hi.tch tV (by simp)) (hm.tch tV (by simp)) (he.tch tV (by simp)) hz (fun nm w' h16 t => hV nm w' h16 (tV.then t))
  obtain ⟨af, c_f, rfl⟩ := Src.form hf
  obtain ⟨ai, c_i, rfl⟩ := RImps.form hi
  obtain ⟨am, c_m, rfl⟩ := RMths.form hm
  obtain ⟨ae, c_e, rfl⟩ := Src.form he
  obtain ⟨V, hVd⟩ : ∃ V, V = w.alloc (.cells #[.string ⟨i.name.toArray⟩, .slice af i.fields.length c_f, .slice ai i.imports.length c_i, .slice am i.methods.length c_m, .slice ae i.exports.length c_e] 27) := ⟨_, rfl⟩
  have tV : Tch [] w V := by rw [hVd]; exact (Tch.refl [] w).alloc _
  have hBx : ∀ W, Tch [] V W → B5 W w.heap.size (.string ⟨i.name.toArray⟩) (.slice af i.fields.length c_f) (.slice ai i.imports.length c_i) (.slice am i.methods.length c_m) (.slice ae i.exports.length c_e) := fun W t => by
    refine B5.tch ?_ t
    rw [hVd]; exact B5.new _ _ _ _ _ _ _
  have hX : ∀ (j : Nat) u, (#[.string ⟨i.name.toArray⟩, .slice af i.fields.length c_f, .slice ai i.imports.length c_i, .slice am i.methods.length c_m, .slice ae i.exports.length c_e] : Array Value).toList[j]? = some u → V.cell? ((⟨w.heap.size, 0, none⟩ : Addr).add j) = some u := by rw [hVd]; exact new_cells w _ _
  have hR := hR0 V tV
  rw [hB] at hR
  clear hR0
  have rF : ∀ W p r, Tch [] V W → V.heap.size ≤ p → V.heap.size ≤ r → RInts W [p, r] (.slice af i.fields.length c_f) i.fields := fun W p r t h1 h2 => ((hf.tch tV (by simp)).mono (fun k hk hlt => by simp at hk; omega)).tch t (by simp)
  have rI : ∀ W p r, Tch [] V W → V.heap.size ≤ p → V.heap.size ≤ r → RImps W [p, r] (.slice ai i.imports.length c_i) i.imports := fun W p r t h1 h2 => (RImps.mono (RImps.tch hi tV (by simp)) (fun k hk hlt => by simp at hk; omega)).tch t (by simp)
  have rM : ∀ W p r, Tch [] V W → V.heap.size ≤ p → V.heap.size ≤ r → RMths W [p, r] (.slice am i.methods.length c_m) i.methods := fun W p r t h1 h2 => (RMths.mono (RMths.tch hm tV (by simp)) (fun k hk hlt => by simp at hk; omega)).tch t (by simp)
  have rE : ∀ W p r, Tch [] V W → V.heap.size ≤ p → V.heap.size ≤ r → RInts W [p, r] (.slice ae i.exports.length c_e) i.exports := fun W p r t h1 h2 => ((he.tch tV (by simp)).mono (fun k hk hlt => by simp at hk; omega)).tch t (by simp)
  clear hf hi hm he
  go_enter Tryz.func7, Tryz.ntmps7
  go_upto_region 1 with fail
  rw [← hVd]
  clear hVd
  go_wp2_with (first | (refine wpList_load_agg rfl 27 (.tmp 1) rfl ⟨w.heap.size, 0, none⟩ rfl #[.string ⟨i.name.toArray⟩, .slice af i.fields.length c_f, .slice ai i.imports.length c_i, .slice am i.methods.length c_m, .slice ae i.exports.length c_e] _ hX Tryz.underlying27 rfl (by kernel_rfl) ?_) | fail)
  refine hR.mono ?_
  rintro e w1 ⟨rfl, t1⟩
  clear hX
  go_wp2_with fail
  refine (oct_new _).mono ?_
  rintro e w2 ⟨rfl, hw2⟩
  have J2 : LJ 95 5 V w2 w1.heap.size w1.heap.size [] := by rw [hw2]; exact ⟨Wr.new w1 95 5, t1.size, t1.size, t1.alloc _⟩
  clear hw2 hR
  generalize w1.heap.size = p at *
  go_wp2_with fail
  have tA : Tch [] w2 (w2.alloc (.cells #[.int .u8 84, .int .u8 65, .int .u8 67, .int .u8 73] 5 (4, 5))) := (Tch.refl [] w2).alloc _
  have hs3 : Src (w2.alloc (.cells #[.int .u8 84, .int .u8 65, .int .u8 67, .int .u8 73] 5 (4, 5))) [] (.slice (some ⟨w2.heap.size, 0, none⟩) 4 4) ([84, 65, 67, 73] : List Int).length (bys [84, 65, 67, 73]) := src_new w2 _ [] _ _ 4 4 (Tch.refl [] _) (by simp)
  refine (oct_Raw _ p _ [] (J2.ahead tA).wr [] _ [84, 65, 67, 73] hs3 (by simp)).mono ?_
  rintro e w3 ⟨rfl, k3⟩
  obtain ⟨r3, J3⟩ := (J2.ahead tA).step k3
  clear hs3 tA J2 k3
  go_wp2_with fail
  refine (oct_U8 _ p r3 _ 1 J3.wr (by omega) (by simp)).mono ?_
  rintro e w4 ⟨rfl, k4⟩
  obtain ⟨r4, J4⟩ := J3.step k4
  rw [← info_put5] at J4
  clear J3 k4
  obtain ⟨b0, b1, b2, b3, b4⟩ := hBx w4 J4.t
  go_wp2_with fail
  have hsz4 := J4.wr.lt
  have hrw4 := J4.wr.row_lt
  refine (oct_Short _ p r4 _ (J4.ahead (hconv w4).2.1).wr [p, r4] _ (nums i.name) ?_ (by simp) (by simp) (by simp [head5]) (by rw [nums_length]; omega)).mono ?_
  · rw [nums_length]; exact (hconv w4).2.2 [p, r4] (fun k hk => by simp at hk; omega)
  rintro e w5 ⟨rfl, k5⟩
  obtain ⟨r5, J5⟩ := (J4.ahead (hconv w4).2.1).step k5
  have e5 : shortN head5 (nums i.name) = head5 ++ encS i.name := by unfold shortN encS; rw [if_pos (by rw [nums_length]; omega), nums_length, List.append_assoc]
  rw [e5] at J5
  obtain ⟨A5, hA5⟩ : ∃ A, A = head5 ++ encS i.name := ⟨_, rfl⟩
  have lA5 : A5.length ≤ 22 := by rw [hA5, List.length_append, encS_le]; simp [head5]; omega
  rw [← hA5] at J5
  clear J4 k5 b0 b1 b2 b3 b4 e5 hconv hcv1
  obtain ⟨b0, b1, b2, b3, b4⟩ := hBx w5 J5.t
  go_wp2_with fail
  refine (im_list _ p r5 _ [p, r5] _ i.fields J5.wr (rF _ _ _ J5.t J5.hp J5.hr) (by simp) (by simp) (by omega) (fun x hx => by have := q2.2 x hx; unfold I6; omega)).mono ?_
  rintro e w6 ⟨rfl, k6⟩
  obtain ⟨r6, J6⟩ := J5.step k6
  obtain ⟨A6, hA6⟩ : ∃ A, A = A5 ++ encN i.fields := ⟨_, rfl⟩
  have lA6 : A6.length ≤ 31 := by rw [hA6, List.length_append, encN_le]; omega
  rw [← hA6] at J6
  clear J5 k6 b0 b1 b2 b3 b4
  obtain ⟨b0, b1, b2, b3, b4⟩ := hBx w6 J6.t
  go_wp2_with fail
  refine (oct_U8 _ p r6 _ (i.imports.length : Int) J6.wr (by omega) (by omega)).mono ?_
  rintro e w7 ⟨rfl, k7⟩
  obtain ⟨r7, J7⟩ := J6.step k7
  obtain ⟨A7, hA7⟩ : ∃ A, A = A6 ++ putN i.imports.length 1 := ⟨_, rfl⟩
  have lA7 : A7.length ≤ 32 := by rw [hA7, List.length_append, putN_length]; omega
  rw [← hA7] at J7
  clear J6 k7 b0 b1 b2 b3 b4
  obtain ⟨b0, b1, b2, b3, b4⟩ := hBx w7 J7.t
  go_wp2_with fail
  clear b0 b1 b2 b3 b4
  go_loopw [38] (fun iv wz => ∃ (k r : Nat), k ≤ i.imports.length ∧ iv = .int .i64 k ∧ LJ 95 5 V wz p r (A7 ++ (i.imports.take k).flatMap encImp)) (fun iv _ => i.imports.length - (intOf iv).toNat)
  case atStart => exact ⟨0, r7, by omega, rfl, by simpa using J7⟩
  case round =>
    obtain ⟨k, r, hk1, rfl, J⟩ := hrel
    clear J7
    by_cases hk : k < i.imports.length
    · obtain ⟨ad, vp, rfl, hadl, ip, hcc⟩ := RImps.at (rI _ _ _ J.t J.hp J.hr) hk
      have hxB := q3.2 _ (List.getElem_mem hk)
      have hts : (i.imports.take (k + 1)).flatMap encImp = (i.imports.take k).flatMap encImp ++ encImp i.imports[k] := by
        rw [← List.take_append_getElem hk, List.flatMap_append]; simp
      have hfl : ((i.imports.take k).flatMap encImp).length ≤ k * 30 := by
        have := flatMap_le (en := encImp) (l := i.imports.take k) (k := 30) (fun y hy => encImp_le (q3.2 y (List.mem_of_mem_take hy)))
        rw [List.length_take] at this
        omega
      generalize i.imports[k] = x at *
      unfold str at hcc
      obtain ⟨x1, x2, x3, x4⟩ := impB_le hxB
      obtain ⟨ap, cp, rfl⟩ := Src.form ip
      have HT := Lib.hid hts; clear hts
      obtain ⟨A, hA⟩ : ∃ A, A = A7 ++ (i.imports.take k).flatMap encImp := ⟨_, rfl⟩
      have lA : A.length ≤ 160 := by rw [hA, List.length_append]; omega
      rw [← hA] at J
      clear hfl
      go_upto_region 12 with (first | (refine wpList_load_agg rfl 45 (.tmp 40) rfl (ad.add (k * 4)) rfl #[.string ⟨x.name.toArray⟩, .int .i64 x.exp, .slice ap x.params.length cp, .int .i64 x.result] _ hcc Tryz.underlying45 rfl (by kernel_rfl) ?_) | fail)
      obtain ⟨cf2, Wf2, hconv2⟩ := bytes_conv (P := Tryz.prog) 9 30 5 Tryz.underlying9 Tryz.underlying30 Tryz.underlying5 x.name
      have hcv2 := fun w => (hconv2 w).1
      obtain ⟨V1, hV1⟩ : ∃ V1, V1 = wr.alloc (.cells #[.string ⟨x.name.toArray⟩, .int .i64 x.exp, .slice ap x.params.length cp, .int .i64 x.result] 45) := ⟨_, rfl⟩
      have tV1 : Tch [] wr V1 := by rw [hV1]; exact (Tch.refl [] wr).alloc _
      have hQ : Bq V1 wr.heap.size (.string ⟨x.name.toArray⟩) (.int .i64 x.exp) (.slice ap x.params.length cp) (.int .i64 x.result) := by rw [hV1]; exact Bq.new _ _ _ _ _ _
      rw [← hV1]
      clear hV1 hcc
      have hplt := J.wr.lt
      have hrlt := J.wr.row_lt
      have ip1 := RInts.tch ip tV1 (by simp)
      have J1 := J.ahead tV1
      have hs1 := tV1.size
      have hg : wr.heap.size ∉ [p, r] := by simp; omega
      obtain ⟨b0, b1, b2, b3⟩ := hQ
      go_wp2_with fail
      refine (oct_Short _ p r A (J1.ahead (hconv2 V1).2.1).wr [p, r] _ (nums x.name) ?_ (by simp) (by simp) (by omega) (by rw [nums_length]; omega)).mono ?_
      · rw [nums_length]; exact (hconv2 V1).2.2 [p, r] (fun k hk => by simp at hk; omega)
      rintro e y1 ⟨rfl, k1⟩
      have e5 : shortN A (nums x.name) = A ++ encS x.name := by unfold shortN encS; rw [if_pos (by rw [nums_length]; omega), nums_length, List.append_assoc]
      rw [e5] at k1
      have K1 : WrTo 95 5 p r (A ++ encS x.name) V1 y1 := WrTo.ahead (hconv2 V1).2.1 k1
      clear k1 hconv2 hcv2 e5
      obtain ⟨r1, a1, d1, c1⟩ := K1
      have hQ1 := (Bq.mk b0 b1 b2 b3).tch c1 hg
      have hQ0 := Bq.mk b0 b1 b2 b3
      clear b0 b1 b2 b3
      obtain ⟨b0, b1, b2, b3⟩ := hQ1
      go_wp2_with fail
      refine (oct_U8 _ p r1 _ x.exp a1 (by omega) (by rw [List.length_append, encS_le]; omega)).mono ?_
      rintro e y2 ⟨rfl, k2⟩
      obtain ⟨r2, a2, d2, c2⟩ := WrTo.after d1 c1 k2
      clear b0 b1 b2 b3 k2 a1 d1 c1
      obtain ⟨b0, b1, b2, b3⟩ := hQ0.tch c2 hg
      go_wp2_with fail
      refine (im_list _ p r2 _ [p, r, r2] _ x.params a2 ((RInts.mono ip1 (fun k hk hlt => by simp at hk ⊢; omega)).tch c2 (fun k hk _ => by simp at hk ⊢; omega)) (by simp) (by simp) (by simp only [List.length_append, encS_le, putN_length]; omega) (fun y hy => by have := x3.2 y hy; unfold I6; omega)).mono ?_
      rintro e y3 ⟨rfl, k3⟩
      obtain ⟨r3', a3, d3, c3⟩ := WrTo.after d2 c2 k3
      clear b0 b1 b2 b3 k3 a2 d2 c2
      obtain ⟨b0, b1, b2, b3⟩ := hQ0.tch c3 hg
      go_wp2_with fail
      refine (oct_U8 _ p r3' _ x.result a3 (by omega) (by simp only [List.length_append, encS_le, encN_le, putN_length]; omega)).mono ?_
      rintro e y4 ⟨rfl, k4⟩
      obtain ⟨r4', J4⟩ := J1.step (WrTo.after d3 c3 k4)
      go_wp2_with fail
      go_roundw
      case rel =>
        refine ⟨k + 1, r4', by omega, by go_num, ?_⟩
        rw [HT.out, ← List.append_assoc, ← hA]
        unfold encImp
        simpa [List.append_assoc] using J4
      case measure => simp [intOf]; omega
    · have hkk : k = i.imports.length := by omega
      subst hkk
      rw [List.take_length] at J
      obtain ⟨A8, hA8⟩ : ∃ A, A = A7 ++ i.imports.flatMap encImp := ⟨_, rfl⟩
      have lA8 : A8.length ≤ 160 := by
        have := flatMap_le (en := encImp) (l := i.imports) (k := 30) (fun y hy => encImp_le (q3.2 y hy))
        rw [hA8, List.length_append]; omega
      rw [← hA8] at J
      obtain ⟨b0, b1, b2, b3, b4⟩ := hBx wr J.t
      go_wp2_with fail
      refine (oct_U8 _ p r _ (i.methods.length : Int) J.wr (by omega) (by omega)).mono ?_
      rintro e w9 ⟨rfl, k9⟩
      obtain ⟨r9, J9⟩ := J.step k9
      obtain ⟨A9, hA9⟩ : ∃ A, A = A8 ++ putN i.methods.length 1 := ⟨_, rfl⟩
      have lA9 : A9.length ≤ 170 := by rw [hA9, List.length_append, putN_length]; omega
      rw [← hA9] at J9
      clear J k9 b0 b1 b2 b3 b4 hk1
      obtain ⟨b0, b1, b2, b3, b4⟩ := hBx w9 J9.t
      go_wp2_with fail
      clear b0 b1 b2 b3 b4
      go_loopw [68] (fun iv wz => ∃ (k r : Nat), k ≤ i.methods.length ∧ iv = .int .i64 k ∧ LJ 95 5 V wz p r (A9 ++ (i.methods.take k).flatMap encMth)) (fun iv _ => i.methods.length - (intOf iv).toNat)
      case atStart => exact ⟨0, r9, by omega, rfl, by simpa using J9⟩
      case round =>
        obtain ⟨k, r, hk1, rfl, J⟩ := hrel
        clear J9
        by_cases hk : k < i.methods.length
        · obtain ⟨ad, vp, vl, vc, rfl, hadl, ip, il, ic, hcc⟩ := RMths.at (rM _ _ _ J.t J.hp J.hr) hk
          have hxB := q4.2 _ (List.getElem_mem hk)
          have hts : (i.methods.take (k + 1)).flatMap encMth = (i.methods.take k).flatMap encMth ++ encMth i.methods[k] := by
            rw [← List.take_append_getElem hk, List.flatMap_append]; simp
          have hfl : ((i.methods.take k).flatMap encMth).length ≤ k * 700 := by
            have := flatMap_le (en := encMth) (l := i.methods.take k) (k := 700) (fun y hy => encMth_le (q4.2 y (List.mem_of_mem_take hy)))
            rw [List.length_take] at this
            omega
          generalize i.methods[k] = x at *
          obtain ⟨x1, x2, x3, x4, x5⟩ := mthB_le hxB
          obtain ⟨ap, cp, rfl⟩ := Src.form ip
          obtain ⟨al, cl, rfl⟩ := Src.form il
          obtain ⟨ac, cc, rfl⟩ := RCode.form ic
          have HT := Lib.hid hts; clear hts
          obtain ⟨A, hA⟩ : ∃ A, A = A9 ++ (i.methods.take k).flatMap encMth := ⟨_, rfl⟩
          have lA : A.length ≤ 7000 := by rw [hA, List.length_append]; omega
          rw [← hA] at J
          clear hfl
          go_upto_region 21 with (first | (refine wpList_load_agg rfl 50 (.tmp 70) rfl (ad.add (k * 4)) rfl #[.slice ap x.params.length cp, .int .i64 x.result, .slice al x.locals.length cl, .slice ac x.code.length cc] _ hcc Tryz.underlying50 rfl (by kernel_rfl) ?_) | fail)
          obtain ⟨V1, hV1⟩ : ∃ V1, V1 = wr.alloc (.cells #[.slice ap x.params.length cp, .int .i64 x.result, .slice al x.locals.length cl, .slice ac x.code.length cc] 50) := ⟨_, rfl⟩
          have tV1 : Tch [] wr V1 := by rw [hV1]; exact (Tch.refl [] wr).alloc _
          have hQ : Bq V1 wr.heap.size (.slice ap x.params.length cp) (.int .i64 x.result) (.slice al x.locals.length cl) (.slice ac x.code.length cc) := by rw [hV1]; exact Bq.new _ _ _ _ _ _
          rw [← hV1]
          clear hV1 hcc
          have hplt := J.wr.lt
          have hrlt := J.wr.row_lt
          have ip1 := RInts.tch ip tV1 (by simp)
          have il1 := RInts.tch il tV1 (by simp)
          have ic1 := RCode.tch ic tV1 (by simp)
          have J1 := J.ahead tV1
          have hs1 := tV1.size
          have hg : wr.heap.size ∉ [p, r] := by simp; omega
          obtain ⟨b0, b1, b2, b3⟩ := id hQ
          go_wp2_with fail
          refine (im_list _ p r _ [p, r] _ x.params J1.wr ip1 (by simp) (by simp) (by omega) (fun y hy => by have := x1.2 y hy; unfold I6; omega)).mono ?_
          rintro e y1 ⟨rfl, k1⟩
          obtain ⟨r1, a1, d1, c1⟩ := k1
          clear b0 b1 b2 b3
          obtain ⟨b0, b1, b2, b3⟩ := hQ.tch c1 hg
          go_wp2_with fail
          refine (oct_U8 _ p r1 _ x.result a1 (by omega) (by simp only [List.length_append, encN_le, putN_length]; omega)).mono ?_
          rintro e y2 ⟨rfl, k2⟩
          obtain ⟨r2, a2, d2, c2⟩ := WrTo.after d1 c1 k2
          clear b0 b1 b2 b3 k2 a1 d1 c1
          obtain ⟨b0, b1, b2, b3⟩ := hQ.tch c2 hg
          go_wp2_with fail
          refine (im_list _ p r2 _ [p, r, r2] _ x.locals a2 ((RInts.mono il1 (fun k hk hlt => by simp at hk ⊢; omega)).tch c2 (fun k hk _ => by simp at hk ⊢; omega)) (by simp) (by simp) (by simp only [List.length_append, encN_le, putN_length]; omega) (fun y hy => by have := x3.2 y hy; unfold I6; omega)).mono ?_
          rintro e y3 ⟨rfl, k3⟩
          obtain ⟨r3', a3, d3, c3⟩ := WrTo.after d2 c2 k3
          clear b0 b1 b2 b3 k3 a2 d2 c2
          obtain ⟨b0, b1, b2, b3⟩ := hQ.tch c3 hg
          go_wp2_with fail
          refine (oct_U8 _ p r3' _ (x.code.length : Int) a3 (by omega) (by simp only [List.length_append, encN_le, putN_length]; omega)).mono ?_
          rintro e y4 ⟨rfl, k4⟩
          have K4 := WrTo.after d3 c3 k4
          clear b0 b1 b2 b3 k4 a3 d3 c3
          obtain ⟨B, hB'⟩ : ∃ B, B = A ++ encN x.params ++ putN x.result 1 ++ encN x.locals ++ putN x.code.length 1 := ⟨_, rfl⟩
          have lB : B.length ≤ 7100 := by rw [hB']; simp only [List.length_append, encN_le, putN_length]; omega
          rw [← hB'] at K4
          obtain ⟨b0, b1, b2, b3⟩ := hQ.tch K4.choose_spec.2.2 hg
          go_wp2_with fail
          clear b0 b1 b2 b3
          go_loopw [92] (fun iv wz => ∃ (j : Nat), j ≤ x.code.length ∧ iv = .int .i64 j ∧ WrTo 95 5 p r (B ++ (x.code.take j).flatMap encIns) V1 wz) (fun iv _ => x.code.length - (intOf iv).toNat)
          case atStart => exact ⟨0, by omega, rfl, by simpa using K4⟩
          case round =>
            obtain ⟨j, hj1, rfl, K⟩ := hrel
            clear K4
            by_cases hj : j < x.code.length
            · obtain ⟨r4, a4, d4, c4⟩ := K
              obtain ⟨ad2, rfl, hadl2, hcc2⟩ := RCode.at (ic1.tch c4 (fun k hk _ => hk)) hj
              have hyR := x5 _ (List.getElem_mem hj)
              have hts : (x.code.take (j + 1)).flatMap encIns = (x.code.take j).flatMap encIns ++ encIns x.code[j] := by
                rw [← List.take_append_getElem hj, List.flatMap_append]; simp
              have hfl : ((x.code.take j).flatMap encIns).length ≤ j * 5 := by
                have := flatMap_le (en := encIns) (l := x.code.take j) (k := 5) (fun y hy => (encI_length y.op y.a y.b).2)
                rw [List.length_take] at this
                omega
              generalize x.code[j] = y at *
              have HT2 := Lib.hid hts; clear hts
              obtain ⟨C, hC⟩ : ∃ C, C = B ++ (x.code.take j).flatMap encIns := ⟨_, rfl⟩
              have lC : C.length ≤ 7700 := by rw [hC, List.length_append]; omega
              rw [← hC] at a4
              clear hfl
              obtain ⟨f1, f2, f3, f4, f5, f6⟩ := rightI_facts _ _ _ hyR
              have fa : I6 y.a := by
                by_cases h1 : y.op = 1
                · rw [h1] at f3 f4
                  have g1 : limLo 1 = -2147483648 := rfl
                  have g2 : limHi 1 = 2147483647 := rfl
                  unfold I6; omega
                · have := limHi_le y.op h1
                  unfold I6; omega
              have fb : I6 y.b := by
                by_cases h1 : y.op = 27
                · have := f5 h1; unfold I6; omega
                · have := f6 h1; unfold I6; omega
              go_upto_region 28 with (first | (refine wpList_load_agg rfl 47 (.tmp 94) rfl (ad2.add (j * 3)) rfl #[.int .i64 y.op, .int .i64 y.a, .int .i64 y.b] _ hcc2 Tryz.underlying47 rfl (by kernel_rfl) ?_) | fail)
              obtain ⟨V2, hV2⟩ : ∃ V2, V2 = wr.alloc (.cells #[.int .i64 y.op, .int .i64 y.a, .int .i64 y.b] 47) := ⟨_, rfl⟩
              have tV2 : Tch [] wr V2 := by rw [hV2]; exact (Tch.refl [] wr).alloc _
              have hX2 : ∀ (j : Nat) u, (#[.int .i64 y.op, .int .i64 y.a, .int .i64 y.b] : Array Value).toList[j]? = some u → V2.cell? ((⟨wr.heap.size, 0, none⟩ : Addr).add j) = some u := by rw [hV2]; exact new_cells wr _ _
              rw [← hV2]
              clear hV2 hcc2
              go_wp2_with (first | (refine wpList_load_agg rfl 47 (.tmp 10) rfl ⟨wr.heap.size, 0, none⟩ rfl #[.int .i64 y.op, .int .i64 y.a, .int .i64 y.b] _ hX2 Tryz.underlying47 rfl (by kernel_rfl) ?_) | fail)
              refine (code_Lay _ p r4 _ y.op y.a y.b (by omega) fa fb hyR (a4.tch tV2 (by simp) (by simp)) (by omega)).mono ?_
              rintro e y5 ⟨rfl, k5⟩
              have K5 := WrTo.after d4 c4 (WrTo.ahead tV2 k5)
              go_wp2_with fail
              go_roundw
              case rel =>
                refine ⟨j + 1, by omega, by go_num, ?_⟩
                rw [HT2.out, ← List.append_assoc, ← hC]
                exact K5
              case measure => simp [intOf]; omega
            · have hjj : j = x.code.length := by omega
              subst hjj
              rw [List.take_length] at K
              obtain ⟨r5', J5⟩ := J1.step K
              go_wp2_with fail
              go_roundw
              case rel =>
                refine ⟨k + 1, r5', by omega, by go_num, ?_⟩
                rw [HT.out, ← List.append_assoc, ← hA]
                unfold encMth
                rw [hB'] at J5
                simpa [List.append_assoc] using J5
              case measure => simp [intOf]; omega
        · have hkk : k = i.methods.length := by omega
          subst hkk
          rw [List.take_length] at J
          obtain ⟨Aa, hAa⟩ : ∃ A, A = A9 ++ i.methods.flatMap encMth := ⟨_, rfl⟩
          have lAa : Aa.length ≤ 7000 := by
            have := flatMap_le (en := encMth) (l := i.methods) (k := 700) (fun y hy => encMth_le (q4.2 y hy))
            rw [hAa, List.length_append]; omega
          rw [← hAa] at J
          obtain ⟨b0, b1, b2, b3, b4⟩ := hBx wr J.t
          go_wp2_with fail
          refine (im_list _ p r _ [p, r] _ i.exports J.wr (rE _ _ _ J.t J.hp J.hr) (by simp) (by simp) (by omega) (fun x hx => by have := q5.2 x hx; unfold I6; omega)).mono ?_
          rintro e wa ⟨rfl, ka⟩
          obtain ⟨ra, Ja⟩ := J.step ka
          have hfin : Aa ++ encN i.exports = encImg i := by
            rw [hAa, hA9, hA8, hA7, hA6, hA5]
            unfold encImg encBody
            simp only [List.append_assoc]
          rw [hfin] at Ja
          have hel := encImg_le hB
          clear b0 b1 b2 b3 b4 ka J
          go_wp2_with fail
          refine (oct_Bytes _ p ra _ Ja.wr (by omega)).mono ?_
          rintro e wb ⟨ao, cap, rfl, ho, ⟨g, rfl, hg2⟩, tb⟩
          go_wp2_with fail
          go_ret2
          exact ⟨_, cap, rfl, ho, ⟨g, rfl, by have := Ja.t.size; have := tV.size; omega⟩, (tV.then Ja.t).then tb⟩
end Go.Proofs.YtapephelfijcbaaGreatDoor
