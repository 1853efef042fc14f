/-
  STATEMENT: OctetLays (its second form): whatever is laid, of arguments of bulk at most 1048576, is as the reference lays it, and Bytes is its owner's.
-/
import Derived.Test.YtkakoefdfjooeaaLaw1
import Derived.BigQuiet
import Derived.Deep.QuietTactic
namespace Go.Proofs.Ytkakoefdfjooeaa
open Go.RowKit Go.Tcn
set_option linter.unusedVariables false
set_option linter.unusedSimpArgs false

/-- WHAT IS LAID: the first loop, and what stands behind it handed on. -/
def Laid (w w' : World) (e : Ending) : Prop := e = .returned (.bool true) ∧ Tch [] w w'

set_option maxRecDepth 100000 in
set_option maxHeartbeats 1000000 in
theorem octetLays_walk (w : World) (v : Value) (ls : List St) (long : Bool) (hv : Steps w v ls) (hbulk : ∀ x ∈ ls, x.2.2.length ≤ 1048576) :
    Calls Try.prog 3 #[v, .bool long] w fun e w' => Laid w w' e := by
  obtain ⟨i0, hi, hz0, hz1, hz2⟩ := info_parts info_u8
  have hv0 := hv
  obtain ⟨ao, cap, rfl, hlen, hel⟩ := hv.ex
  go_enter Try.func3, Try.ntmps3
  go_wp2_with fail
  refine (oct_new _).mono ?_
  rintro e w1 ⟨rfl, rfl⟩
  have h1 := Wr.new w 62 5
  have t1 : Tch [] w (w.alloc (.cells #[.slice none 0 0] 62)) := (Tch.refl [] w).alloc _
  go_wp2_with fail
  refine (oct_known _).mono ?_
  rintro e w2 ⟨rfl, t2⟩
  have h2 := h1.tch t2 (by simp) (by simp)
  have t3 : Tch [] w2 (w2.alloc (.cells #[.slice none 0 0] 29)) := (Tch.refl [] w2).alloc _
  have hw0 : Two w (w2.alloc (.cells #[.slice none 0 0] 29)) 62 29 5 w.heap.size w.heap.size w2.heap.size w2.heap.size [] := by
    have := t2.size
    simp at this
    exact ⟨h2.tch t3 (by simp) (by simp), Wr.new w2 _ _, by omega, by omega, (t1.then t2).then t3⟩
  go_wp2_with fail
  obtain ⟨p2, hp2⟩ : ∃ p2, w2.heap.size = p2 := ⟨_, rfl⟩
  simp only [hp2] at hw0 ⊢
  have HP := Lib.hid hp2; clear hp2
  go_loopw [7] (fun i wr => ∃ k : Nat, k ≤ ls.length ∧ k ≤ 40 ∧ i = .int .i64 k ∧ ∃ r1 r2 m, Two w wr 62 29 5 w.heap.size r1 p2 r2 m ∧ m.length ≤ k * 1048836) (fun i _ => 40 - (intOf i).toNat)
  case atStart => exact ⟨0, by omega, by omega, rfl, _, _, _, hw0, by simp⟩
  case round =>
    obtain ⟨k, hk1, hk2, rfl, r1, r2, m, ht, hml⟩ := hrel
    by_cases hk : k < ls.length ∧ k < 40
    · obtain ⟨hk3, hk4⟩ := hk
      obtain ⟨ad, vb, rfl, hadlt, hcell, hsrc⟩ := hel k ls[k] (by simp [hk3])
      have hr := hv0.rng ls[k] (List.getElem_mem hk3)
      have hbk := hbulk ls[k] (List.getElem_mem hk3)
      obtain ⟨hw, hn, hbt, _⟩ := hr
      have hc : ∀ j u, (#[Value.int .i64 ls[k].1, .int .i64 ls[k].2.1, vb] : Array Value).toList[j]? = some u → wr.cell? ((ad.add (k * 3)).add j) = some u := fun j u hj => by
        rw [ht.tch.cell (by rw [Addr_add_block, Addr_add_block]; exact hadlt) (by simp)]
        exact hcell j u hj
      have hsrc1 := hsrc.tch ht.tch (by simp)
      clear hel hcell hv0 hv hbulk
      generalize ls[k] = x at *
      obtain ⟨what, n, b⟩ := x
      dsimp only at *
      obtain ⟨aob, capb, rfl⟩ := hsrc.form
      have hx := ht.alloc ((Tch.refl [] wr).alloc (.cells #[.int .i64 what, .int .i64 n, .slice aob b.length capb] 31))
      have hsx := hsrc1.tch ((Tch.refl [] wr).alloc (.cells #[.int .i64 what, .int .i64 n, .slice aob b.length capb] 31)) (by simp)
      have cx0 : (wr.alloc (.cells #[.int .i64 what, .int .i64 n, .slice aob b.length capb] 31)).cell? ⟨wr.heap.size, 0, none⟩ = some (.int .i64 what) := by rw [World.cell?]; rw [heap_alloc_new]; rfl
      have cx1 : (wr.alloc (.cells #[.int .i64 what, .int .i64 n, .slice aob b.length capb] 31)).cell? ⟨wr.heap.size, 1, none⟩ = some (.int .i64 n) := by rw [World.cell?]; rw [heap_alloc_new]; rfl
      have cx2 : (wr.alloc (.cells #[.int .i64 what, .int .i64 n, .slice aob b.length capb] 31)).cell? ⟨wr.heap.size, 2, none⟩ = some (.slice aob b.length capb) := by rw [World.cell?]; rw [heap_alloc_new]; rfl
      have hbl : wr.heap.size < (wr.alloc (.cells #[.int .i64 what, .int .i64 n, .slice aob b.length capb] 31)).heap.size := by simp
      have hbn : wr.heap.size ∉ [w.heap.size, r1] := by have := ht.a.lt; have := ht.a.row_lt; simp; omega
      have hpk := hand_Pick what 5 hw (by omega) (by omega)
      have hsw := ht.tch.size
      -- the bytes' blocks are none of the writers'
      have hsy : Src (wr.alloc (.cells #[.int .i64 what, .int .i64 n, .slice aob b.length capb] 31)) [w.heap.size, r1, p2, r2] (.slice aob b.length capb) b.length (bys b) := by
        obtain ⟨g1, g2, g3, g4⟩ := ht.ge
        exact (hsrc.mono (L' := [w.heap.size, r1, p2, r2]) (by intro i hi hlt; simp at hi; omega)).tch (ht.tch.alloc _) (by simp)
      go_wp2_with (first | (refine wpList_load_agg rfl 31 (.tmp 33) rfl (ad.add (k * 3)) rfl #[.int .i64 what, .int .i64 n, .slice aob b.length capb] _ hc Try.underlying31 rfl (by kernel_rfl) ?_) | fail)
      refine (hpk _).mono ?_
      rintro e w' ⟨rfl, rfl⟩
      have hcase : what % 5 = 0 ∨ what % 5 = 1 ∨ what % 5 = 2 ∨ what % 5 = 3 ∨ what % 5 = 4 := by omega
      have HW := Lib.hid hw; clear hw
      rcases hcase with hc5 | hc5 | hc5 | hc5 | hc5
      all_goals (rw [hc5]; clear hc5 hpk)

      -- U8
      · go_wp2_with fail
        refine (oct_U8 _ _ _ _ _ hx.a hn (by omega)).mono ?_
        rintro e wa ⟨rfl, ra, ha, hra, ta⟩
        have hm := hx.mid ta
        have ca1 := (ta.cell (p := ⟨wr.heap.size, 1, none⟩) hbl hbn).trans cx1
        go_wp2_with fail
        refine (ref_U8 _ _ _ _ _ hm hn (by omega)).mono ?_
        rintro e wb ⟨rfl, rb, hb, hrb, tb⟩
        have hs := hx.step ha hra ta hb hrb tb
        clear ca1 cx0 cx1 cx2 hc
        go_wp2
        go_roundw
        case rel => exact ⟨k + 1, by omega, by omega, by go_num, ra, rb, _, hs, by simp [putN_length]; omega⟩
        case measure => simp [intOf]; omega
      -- U16
      · go_wp2_with fail
        refine (oct_U16 _ _ _ _ _ hx.a hn (by omega)).mono ?_
        rintro e wa ⟨rfl, ra, ha, hra, ta⟩
        have hm := hx.mid ta
        have ca1 := (ta.cell (p := ⟨wr.heap.size, 1, none⟩) hbl hbn).trans cx1
        go_wp2_with fail
        refine (ref_U16 _ _ _ _ _ hm hn (by omega)).mono ?_
        rintro e wb ⟨rfl, rb, hb, hrb, tb⟩
        have hs := hx.step ha hra ta hb hrb tb
        clear ca1 cx0 cx1 cx2 hc
        go_wp2
        go_roundw
        case rel => exact ⟨k + 1, by omega, by omega, by go_num, ra, rb, _, hs, by simp [putN_length]; omega⟩
        case measure => simp [intOf]; omega
      -- S32
      · go_wp2_with fail
        refine (oct_S32 _ _ _ _ _ hx.a hn (by omega)).mono ?_
        rintro e wa ⟨rfl, ra, ha, hra, ta⟩
        have hm := hx.mid ta
        have ca1 := (ta.cell (p := ⟨wr.heap.size, 1, none⟩) hbl hbn).trans cx1
        go_wp2_with fail
        refine (ref_S32 _ _ _ _ _ hm hn (by omega)).mono ?_
        rintro e wb ⟨rfl, rb, hb, hrb, tb⟩
        have hs := hx.step ha hra ta hb hrb tb
        clear ca1 cx0 cx1 cx2 hc
        go_wp2
        go_roundw
        case rel => exact ⟨k + 1, by omega, by omega, by go_num, ra, rb, _, hs, by simp [putN_length]; omega⟩
        case measure => simp [intOf]; omega
      -- Raw
      · go_wp2_with fail
        refine (oct_Raw _ _ _ _ hx.a _ _ b hsy (by omega)).mono ?_
        rintro e wa ⟨rfl, ra, ha, hra, ta⟩
        have hm := hx.mid ta
        have ca2 := (ta.cell (p := ⟨wr.heap.size, 2, none⟩) hbl hbn).trans cx2
        have hsa := hsy.tch ta (by simp)
        go_wp2_with fail
        refine (ref_Raw _ _ _ _ hm _ _ b hsa (by omega)).mono ?_
        rintro e wb ⟨rfl, rb, hb, hrb, tb⟩
        have hs := hx.step ha hra ta hb hrb tb
        clear ca2 cx0 cx1 cx2 hc
        go_wp2
        go_roundw
        case rel => exact ⟨k + 1, by omega, by omega, by go_num, ra, rb, _, hs, by simp; omega⟩
        case measure => simp [intOf]; omega
      -- Short
      · by_cases hlg : long = true ∧ k = 5
        · obtain ⟨rfl, rfl⟩ := hlg
          have hpk2 := hand_Pick n 12 hn (by omega) (by omega)
          have hr12 : 0 ≤ n % 12 ∧ n % 12 < 12 := by omega
          go_wp2_with fail
          refine (hpk2 _).mono ?_
          rintro e w' ⟨rfl, rfl⟩
          obtain ⟨z, hz⟩ : ∃ z : Nat, (z : Int) = 250 + n % 12 := ⟨(250 + n % 12).toNat, by omega⟩
          have hz' : z ≤ 261 := by omega
          have HZ := Lib.hid hz; clear hz hpk2
          go_wp2_with (refine wpList_make_full _ rfl (.tmp 48) (.tmp 48) 27 rfl 0 5 i0 (.int .u8 0) 1 Try.underlying27 hi hz0 hz1 .i64 .i64 (250 + n % 12) (250 + n % 12) z rfl rfl HZ.out.symm HZ.out.symm (by rw [hz2]; omega) (by unfold maxLen; omega) (Nat.zero_le _) ?_; intro wm hom hgm)
          have esz : (wr.alloc (.cells #[.int .i64 what, .int .i64 n, .slice aob b.length capb] 31)).heap.size = wr.heap.size + 1 := by simp
          rw [made_bytes, esz] at hom
          have tm := Tch.made hgm
          have hxm := hx.alloc tm
          have hl1 := hx.a.lt
          have hl2 := hx.a.row_lt
          have hl3 := hx.b.lt
          have hl4 := hx.b.row_lt
          have hsm := src_of_owns hom [w.heap.size, r1, p2, r2] (by intro g hg; simp [Value.ownBlock] at hg; subst hg; simp at hl1 hl2 hl3 hl4 ⊢; omega)
          have hsm' : Src wm [w.heap.size, r1, p2, r2] (.slice (some ⟨wr.heap.size + 1, 0, none⟩) z z) (List.replicate z (0 : Int)).length (bys (List.replicate z 0)) := by rw [List.length_replicate]; exact hsm
          clear hom hsm
          go_wp2_with fail
          refine (oct_Short _ _ _ _ hxm.a _ _ _ hsm' (by simp) (by simp) (by omega) (by simp; omega)).mono ?_
          rintro e wa ⟨rfl, ra, ha, hra, ta⟩
          have hm := hxm.mid ta
          have hsa := hsm'.tch ta (by simp)
          go_wp2_with fail
          refine (ref_Short _ _ _ _ hm _ _ _ hsa (by simp) (by simp) (by omega) (by simp; omega)).mono ?_
          rintro e wb ⟨rfl, rb, hb, hrb, tb⟩
          have hs := hxm.step ha hra ta hb hrb tb
          have hsl := shortN_length m (List.replicate z 0)
          clear cx0 cx1 cx2 hc
          go_wp2
          go_roundw
          case rel => exact ⟨5 + 1, by omega, by omega, by go_num, ra, rb, _, hs, by omega⟩
          case measure => simp [intOf]
        · have hlb : (long && (decide ((k : Int) = 5))) = false := by
            cases long <;> simp at hlg ⊢; omega
          have hfin : ∀ (a : Act), True := fun _ => trivial
          have hb255 : b.length ≤ 140737488355328 := by omega
          cases long
          · go_wp2_with fail
            refine (oct_Short _ _ _ _ hx.a _ _ b hsy (by simp) (by simp) (by omega) hb255).mono ?_
            rintro e wa ⟨rfl, ra, ha, hra, ta⟩
            have hm := hx.mid ta
            have hsa := hsy.tch ta (by simp)
            go_wp2_with fail
            refine (ref_Short _ _ _ _ hm _ _ b hsa (by simp) (by simp) (by omega) hb255).mono ?_
            rintro e wb ⟨rfl, rb, hb, hrb, tb⟩
            have hs := hx.step ha hra ta hb hrb tb
            have hsl := shortN_length m b
            clear cx0 cx1 cx2 hc
            go_wp2
            go_roundw
            case rel => exact ⟨k + 1, by omega, by omega, by go_num, ra, rb, _, hs, by omega⟩
            case measure => simp [intOf]; omega
          · have hk5 : ((k : Int) == 5) = false := by simp at hlg ⊢; omega
            go_wp2_with fail
            refine (oct_Short _ _ _ _ hx.a _ _ b hsy (by simp) (by simp) (by omega) hb255).mono ?_
            rintro e wa ⟨rfl, ra, ha, hra, ta⟩
            have hm := hx.mid ta
            have hsa := hsy.tch ta (by simp)
            go_wp2_with fail
            refine (ref_Short _ _ _ _ hm _ _ b hsa (by simp) (by simp) (by omega) hb255).mono ?_
            rintro e wb ⟨rfl, rb, hb, hrb, tb⟩
            have hs := hx.step ha hra ta hb hrb tb
            have hsl := shortN_length m b
            clear cx0 cx1 cx2 hc
            go_wp2
            go_roundw
            case rel => exact ⟨k + 1, by omega, by omega, by go_num, ra, rb, _, hs, by omega⟩
            case measure => simp [intOf]; omega
    · have hout : m.length ≤ 140737488355328 := by omega
      have hcases : ¬ k < ls.length ∨ (k < ls.length ∧ ¬ k < 40) := by omega
      clear hel hv0 hv hbulk
      rcases hcases with hk0 | ⟨hk0, hk3⟩
      all_goals
        go_wp2_with fail
        refine (oct_Bytes _ _ _ _ ht.a hout).mono ?_
        rintro e w5 ⟨ao5, cap5, rfl, h5, ⟨g, rfl, hg⟩, t5⟩
        have h5t := ht.alloc t5
        obtain ⟨v2, hv2, ho2, hrow2, hne2⟩ := h5t.b.ex
        have c2 : w5.cell? ⟨p2, 0, none⟩ = some v2 := by simp [World.cell?, hv2]
        have hs1 : (convert 27 9 (.slice (some ⟨g, 0, none⟩) m.length cap5)).run Try.prog w5.drew = .ok (.string (strOfNums m)) w5.drew := run_str 27 5 9 Try.underlying27 Try.underlying5 Try.underlying9 (src_of_owns h5.drew [] (by simp))
        have hs2 : (convert 27 9 v2).run Try.prog w5.drew = .ok (.string (strOfNums m)) w5.drew := run_str 27 5 9 Try.underlying27 Try.underlying5 Try.underlying9 (src_of_owns ho2.drew [] (by simp))
        clear hrow2
        go_wp2_with fail
        go_region
        all_goals
          clear hs1 hs2 c2
          go_wp2_with fail
          have hgn : g ≠ w.heap.size ∧ g ≠ r1 ∧ g ≠ p2 ∧ g ≠ r2 := by
            have := ht.a.lt; have := ht.a.row_lt; have := ht.b.lt; have := ht.b.row_lt; omega
          go_loopw [11] (fun i wq => ∃ j : Nat, j ≤ m.length ∧ i = .int .i64 j ∧ ∃ q : List Int, q.length = m.length ∧ wq.ownsRow 0 5 1 (.slice (some ⟨g, 0, none⟩) m.length cap5) m.length (bys q) ∧ Tch [g] w5 wq) (fun i _ => m.length - (intOf i).toNat)
          case atStart => exact ⟨0, Nat.zero_le _, rfl, m, rfl, h5.drew, (Tch.refl _ _).drew⟩
          case round =>
            obtain ⟨j, hj, rfl, q, hq, hown, htq⟩ := hrel
            have HQ := Lib.hid hq; clear hq
            by_cases hjl : j < m.length
            · have hjq : j < q.length := by rw [HQ.out]; exact hjl
              have cq := owns_byte hown j hjq
              have fq : wr.frozen? ⟨g, j, none⟩ = false := hown.frozenAt j
              have HO := Lib.hid hown; clear hown
              generalize q[j] = c at *
              go_wp2
              go_roundw
              case rel => exact ⟨j + 1, by omega, by go_num, q.set j _, by rw [List.length_set]; exact HQ.out, owns_byte_set HO.out j _, htq.setCell (by simp) _⟩
              case measure => simp [intOf]; omega
            · have hA : Wr wr.drew 62 5 w.heap.size r1 m := (h5t.a.tch htq (by simp; omega) (by simp; omega)).tch ((Tch.refl [] wr).drew) (by simp) (by simp)
              have hB : Wr wr.drew 29 5 p2 r2 m := (h5t.b.tch htq (by simp; omega) (by simp; omega)).tch ((Tch.refl [] wr).drew) (by simp) (by simp)
              have tw : Tch [] w wr := (h5t.tch).trans htq (by simp) (by intro i hi hx; simp at hx; have := ht.tch.size; omega)
              obtain ⟨v6, hv6, ho6, hrow6, hne6⟩ := hB.ex
              clear hrow6
              have c6 : wr.drew.cell? ⟨p2, 0, none⟩ = some v6 := by simp [World.cell?, hv6]
              have hs6 : (convert 27 9 v6).run Try.prog wr.drew = .ok (.string (strOfNums m)) wr.drew := run_str 27 5 9 Try.underlying27 Try.underlying5 Try.underlying9 (src_of_owns ho6 [] (by simp))
              have hp6 := hB.lt
              clear hown
              go_wp2_with fail
              go_region_with (go_at_call 24; refine (oct_Bytes _ _ _ _ hA hout).mono ?_; rintro e w7 ⟨ao7, cap7, rfl, h7, hg7, t7⟩; have c7 := (t7.cell (p := ⟨p2, 0, none⟩) hp6 (by simp)).trans c6; have hs7 := run_str 27 5 9 Try.underlying27 Try.underlying5 Try.underlying9 (src_of_owns h7 [] (by simp)); have hs8 := run_str 27 5 9 Try.underlying27 Try.underlying5 Try.underlying9 (src_of_owns (ownsRow_tch ho6 t7 (by simp)) [] (by simp)); clear h7 hg7)
              all_goals
                go_wp2
                go_ret
                exact ⟨rfl, tw.drew.then t7⟩
end Go.Proofs.Ytkakoefdfjooeaa
