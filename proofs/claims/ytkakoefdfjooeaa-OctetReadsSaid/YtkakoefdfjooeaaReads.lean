/-
  STATEMENT: OctetReads: whatever is taken of any bytes, beyond their end, too, is as the reference takes it: the walk. Conditions: the bytes fit.
-/
import Derived.Test.YtkakoefdfjooeaaLaw1
import Derived.Deep.QuietTactic
import Derived.BigQuiet
namespace Go.Proofs.Ytkakoefdfjooeaa
open Go.RowKit Go.Tcn
set_option linter.unusedVariables false
set_option linter.unusedSimpArgs false

/-- Two readers that have the same left, apart from one another, in blocks from those of w on. -/
structure Duo (w wr : World) (T1 T2 p1 p2 : Nat) (l : List Int) (lack : Bool) : Prop where
  a : Rd wr T1 p1 [p2] l lack
  b : Rd wr T2 p2 [p1] l lack
  ne : p1 ≠ p2
  ge : w.heap.size ≤ p1 ∧ w.heap.size ≤ p2
  tch : Tch [] w wr
theorem Duo.drew {w wr : World} {T1 T2 p1 p2 : Nat} {l : List Int} {lack : Bool} (h : Duo w wr T1 T2 p1 p2 l lack) : Duo w wr.drew T1 T2 p1 p2 l lack :=
  ⟨h.a.tch ((Tch.refl [] wr).drew) (by simp) (by simp), h.b.tch ((Tch.refl [] wr).drew) (by simp) (by simp), h.ne, h.ge, h.tch.drew⟩
theorem Duo.drewN {w wr : World} {T1 T2 p1 p2 : Nat} {l : List Int} {lack : Bool} (h : Duo w wr T1 T2 p1 p2 l lack) (n : Nat) : Duo w (wr.drewN n) T1 T2 p1 p2 l lack :=
  ⟨h.a.tch ((Tch.refl [] wr).drewN n) (by simp) (by simp), h.b.tch ((Tch.refl [] wr).drewN n) (by simp) (by simp), h.ne, h.ge, h.tch.drewN n⟩
theorem Duo.mid {w wr wa : World} {T1 T2 p1 p2 : Nat} {l : List Int} {lack : Bool} (h : Duo w wr T1 T2 p1 p2 l lack) (ht : Tch [p1] wr wa) : Rd wa T2 p2 [p1] l lack :=
  h.b.tch ht (by have := h.ne; simp; omega) (by simp)
theorem Duo.step {w wr wa wb : World} {T1 T2 p1 p2 : Nat} {l n : List Int} {lack k : Bool} (h : Duo w wr T1 T2 p1 p2 l lack) (ha : Rd wa T1 p1 [p2] n k) (ta : Tch [p1] wr wa) (hb : Rd wb T2 p2 [p1] n k) (tb : Tch [p2] wa wb) : Duo w wb T1 T2 p1 p2 n k := by
  have hne := h.ne
  have hge := h.ge
  refine ⟨ha.tch tb (by simp; omega) (by simp), hb, hne, hge, ?_⟩
  refine (h.tch.trans (M := []) ta (by simp) ?_).trans (M := []) tb (by simp) ?_ <;> (intro i hi hx; simp at hx; omega)
theorem Duo.cells {w wr : World} {T1 T2 p1 p2 : Nat} {l : List Int} {lack : Bool} (h : Duo w wr T1 T2 p1 p2 l lack) : wr.cell? ⟨p2, 1, none⟩ = some (.bool lack) ∧ ∃ ao cap, wr.cell? ⟨p2, 0, none⟩ = some (.slice ao l.length cap) := by
  obtain ⟨ao, cap, _, hv, _⟩ := h.b.cap
  obtain ⟨c0, c1, _, _⟩ := cells_two hv
  exact ⟨c1, ao, cap, c0⟩
theorem rdRest_le (l : List Int) (lack : Bool) (n : Int) : (rdRest l lack n).length ≤ l.length := by unfold rdRest; split <;> simp
theorem shRest_le (l : List Int) (lack : Bool) : (shRest l lack).length ≤ l.length := Nat.le_trans (rdRest_le _ _ _) (rdRest_le _ _ _)

set_option maxRecDepth 100000 in
set_option maxHeartbeats 2000000 in
theorem octetReads_walk (w : World) (v : Value) (b : List Int) (hv : Src w [] v b.length (bys b)) (hbt : Byt b) (hbl : b.length ≤ 140737488355328) (u : Value) (ls : List St) (hu : Steps w u ls) :
    Calls Try.prog 7 #[v, u] w fun e w' => e = .returned (.bool true) ∧ Tch [] w w' := by
  obtain ⟨vo, vcap, rfl⟩ := hv.form
  have hu0 := hu
  obtain ⟨ao, cap, rfl, hlen, hel⟩ := hu.ex
  go_enter Try.func7, Try.ntmps7
  go_wp2_with fail
  refine (oct_NewReader _ [] (by simp) [] _ b hv hbt hbl).mono ?_
  rintro e w1 ⟨p1, rfl, hp1, h1, t1⟩
  go_wp2_with fail
  refine (oct_known _).mono ?_
  rintro e w2 ⟨rfl, t2⟩
  have h2 := h1.tch t2 (by simp) (by simp)
  have hv2 := hv.tch (t1.then t2) (by simp)
  go_wp2_with fail
  refine (hand_Few _ [] _ b hv2 b.length (by omega) (by omega) (by omega)).mono ?_
  rintro e w3 ⟨fo, fcap, rfl, h3, hf3, t3⟩
  rw [List.take_length] at h3 hf3
  have h4 := h2.tch t3 (by simp) (by simp)
  have hp1lt := h2.lt
  have hs3 := t3.size
  have hD : Duo w (w3.alloc (.cells #[.slice fo b.length fcap, .bool false] 50)) 67 50 p1 w3.heap.size b false := by
    have ta : Tch [] w3 (w3.alloc (.cells #[.slice fo b.length fcap, .bool false] 50)) := (Tch.refl [] w3).alloc _
    refine ⟨(h4.mono (L' := [w3.heap.size]) (by simp)).tch ta (by simp) (by simp), ⟨⟨fo, fcap, heap_alloc_new w3 _, src_of_owns (h3.alloc _) _ (fun g hg hx => ?_)⟩, hbt⟩, by omega, ⟨hp1, ?_⟩, ((t1.then t2).then t3).then ta⟩
    · have h5 := hf3 g hg
      have h6 := (World.ownsRow.lt h3 g hg).2
      simp at hx
      omega
    · have := t1.size; have := t2.size; omega
  clear h3 hf3
  go_wp2_with fail
  obtain ⟨p2, hp2⟩ : ∃ p2, w3.heap.size = p2 := ⟨_, rfl⟩
  simp only [hp2] at hD ⊢
  have HP := Lib.hid hp2; clear hp2
  go_loopw [7] (fun i wr => ∃ k : Nat, k ≤ ls.length ∧ k ≤ 40 ∧ i = .int .i64 k ∧ ∃ m lack, Duo w wr 67 50 p1 p2 m lack ∧ m.length ≤ b.length) (fun i _ => 40 - (intOf i).toNat)
  case atStart => exact ⟨0, by omega, by omega, rfl, _, _, hD, Nat.le_refl _⟩
  case round =>
    obtain ⟨k, hk1, hk2, rfl, m, lack, hd, hml⟩ := hrel
    clear hD h1 h2 h4
    by_cases hk : k < ls.length ∧ k < 40
    · obtain ⟨hk3, hk4⟩ := hk
      obtain ⟨ad, vb, rfl, hadlt, hcell, hsrc⟩ := hel k ls[k] (by simp [hk3])
      have hr := hu0.rng ls[k] (List.getElem_mem hk3)
      obtain ⟨hw, hn, hbt', _⟩ := hr
      have hc0 : wr.cell? (ad.add (k * 3)) = some (.int .i64 ls[k].1) := by
        rw [hd.tch.cell (by rw [Addr_add_block]; exact hadlt) (by simp), ← Addr_add_zero (ad.add (k * 3))]
        exact hcell 0 _ rfl
      have hc1 : ∀ wx, Tch [] w wx → wx.cell? ⟨(ad.add (k * 3)).block, (ad.add (k * 3)).off + 1, none⟩ = some (.int .i64 ls[k].2.1) := fun wx tx => by
        rw [show (⟨(ad.add (k * 3)).block, (ad.add (k * 3)).off + 1, none⟩ : Addr) = (ad.add (k * 3)).add 1 from rfl, tx.cell (by rw [Addr_add_block, Addr_add_block]; exact hadlt) (by simp)]
        exact hcell 1 _ rfl
      clear hel hcell hu0 hu hsrc
      generalize ls[k] = x at *
      obtain ⟨what, n, bb⟩ := x
      dsimp only at *
      have hpk := hand_Pick what 5 hw (by omega) (by omega)
      have hpn := hand_Pick n 9 hn (by omega) (by omega)
      go_wp2_with fail
      have hcase : what % 5 = 0 ∨ what % 5 = 1 ∨ what % 5 = 2 ∨ what % 5 = 3 ∨ what % 5 = 4 := by omega
      refine (hpk _).mono ?_
      rintro e w' ⟨rfl, rfl⟩
      clear hpk hc0
      rcases hcase with hc5 | hc5 | hc5 | hc5 | hc5
      all_goals (rw [hc5]; clear hc5 hw)

      -- U8
      · clear hpn hc1
        go_wp2_with fail
        refine (oct_RU8 _ _ _ _ _ hd.a (by omega)).mono ?_
        rintro e wa ⟨rfl, ha, ta⟩
        go_wp2_with fail
        refine (ref_RU8 _ _ _ _ _ (hd.mid ta) (by omega)).mono ?_
        rintro e wb ⟨rfl, hb, tb⟩
        have hD0 := hd.step ha ta hb tb
        have hle := Nat.le_trans (rdRest_le m lack 1) hml
        generalize rdRest m lack 1 = m' at hD0 hle
        generalize (!rdOk m lack 1) = lack' at hD0
        have hD : ∀ n, Duo w (wb.drewN n) 67 50 p1 p2 m' lack' := hD0.drewN
        clear hd ha hb
        obtain ⟨cB, aoB, capB, cA⟩ := hD0.cells
        clear hD0
        go_wp2_with fail
        go_quiet ((first | (go_at_call 44; exact Calls.quiet_of_same ((oct_Lack _ _ _ _ _ (hD _).a).mono fun _ _ h => ⟨h.1, h.2.symm⟩)) | (go_at_call 45; exact Calls.quiet_of_same ((oct_Left _ _ _ _ _ (hD _).a).mono fun _ _ h => ⟨h.1, h.2.symm⟩))))
        clear cA cB
        go_wp2_with fail
        go_roundw
        case rel => exact ⟨k + 1, by omega, by omega, by go_num, _, _, hD _, hle⟩
        case measure => simp [intOf]; omega
      -- U16
      · clear hpn hc1
        go_wp2_with fail
        refine (oct_RU16 _ _ _ _ _ hd.a (by omega)).mono ?_
        rintro e wa ⟨rfl, ha, ta⟩
        go_wp2_with fail
        refine (ref_RU16 _ _ _ _ _ (hd.mid ta) (by omega)).mono ?_
        rintro e wb ⟨rfl, hb, tb⟩
        have hD0 := hd.step ha ta hb tb
        have hle := Nat.le_trans (rdRest_le m lack 2) hml
        generalize rdRest m lack 2 = m' at hD0 hle
        generalize (!rdOk m lack 2) = lack' at hD0
        have hD : ∀ n, Duo w (wb.drewN n) 67 50 p1 p2 m' lack' := hD0.drewN
        clear hd ha hb
        obtain ⟨cB, aoB, capB, cA⟩ := hD0.cells
        clear hD0
        go_wp2_with fail
        go_quiet ((first | (go_at_call 44; exact Calls.quiet_of_same ((oct_Lack _ _ _ _ _ (hD _).a).mono fun _ _ h => ⟨h.1, h.2.symm⟩)) | (go_at_call 45; exact Calls.quiet_of_same ((oct_Left _ _ _ _ _ (hD _).a).mono fun _ _ h => ⟨h.1, h.2.symm⟩))))
        clear cA cB
        go_wp2_with fail
        go_roundw
        case rel => exact ⟨k + 1, by omega, by omega, by go_num, _, _, hD _, hle⟩
        case measure => simp [intOf]; omega
      -- S32
      · clear hpn hc1
        go_wp2_with fail
        refine (oct_RS32 _ _ _ _ _ hd.a (by omega)).mono ?_
        rintro e wa ⟨rfl, ha, ta⟩
        go_wp2_with fail
        refine (ref_RS32 _ _ _ _ _ (hd.mid ta) (by omega)).mono ?_
        rintro e wb ⟨rfl, hb, tb⟩
        have hD0 := hd.step ha ta hb tb
        have hle := Nat.le_trans (rdRest_le m lack 4) hml
        generalize rdRest m lack 4 = m' at hD0 hle
        generalize (!rdOk m lack 4) = lack' at hD0
        have hD : ∀ n, Duo w (wb.drewN n) 67 50 p1 p2 m' lack' := hD0.drewN
        clear hd ha hb
        obtain ⟨cB, aoB, capB, cA⟩ := hD0.cells
        clear hD0
        go_wp2_with fail
        go_quiet ((first | (go_at_call 44; exact Calls.quiet_of_same ((oct_Lack _ _ _ _ _ (hD _).a).mono fun _ _ h => ⟨h.1, h.2.symm⟩)) | (go_at_call 45; exact Calls.quiet_of_same ((oct_Left _ _ _ _ _ (hD _).a).mono fun _ _ h => ⟨h.1, h.2.symm⟩))))
        clear cA cB
        go_wp2_with fail
        go_roundw
        case rel => exact ⟨k + 1, by omega, by omega, by go_num, _, _, hD _, hle⟩
        case measure => simp [intOf]; omega
      -- Raw
      · have hc1w := hc1 wr hd.tch
        go_wp2_with fail
        refine (hpn _).mono ?_
        rintro e w' ⟨rfl, rfl⟩
        have hn9 : 0 ≤ n % 9 ∧ n % 9 < 9 := by omega
        clear hc1w hpn hc1
        generalize n % 9 = q at *
        clear hn
        go_wp2_with fail
        have hdd := hd.drew
        have hplt := hdd.b.lt
        go_region_with (first | (go_at_call 50; refine (oct_RRaw _ _ _ _ _ hdd.a (q - 1) (by omega) (by omega)).mono ?_; rintro e wa ⟨ao1, cp1, rfl, ho1, hg1, ha, ta⟩; have hs1 := run_str 27 5 9 Try.underlying27 Try.underlying5 Try.underlying9 (src_of_owns ho1 [] (by simp))) | (go_at_call 51; refine (ref_RRaw _ _ _ _ _ (hdd.mid ta) (q - 1) (by omega) (by omega)).mono ?_; rintro e wb ⟨ao2, cp2, rfl, ho2, hg2, hb, tb⟩; have hs2 := run_str 27 5 9 Try.underlying27 Try.underlying5 Try.underlying9 (src_of_owns (ownsRow_tch ho1 tb (fun g hg hx => by have := hg1 g hg; simp only [List.mem_singleton] at hx; omega)) [] (by simp)); have hs3 := run_str 27 5 9 Try.underlying27 Try.underlying5 Try.underlying9 (src_of_owns ho2 [] (by simp))))
        all_goals
          have hD0 := hdd.step ha ta hb tb
          have hle := Nat.le_trans (rdRest_le m lack (q - 1)) hml
          clear hs1 hs2 hs3 ho1 ho2 hg1 hg2
          generalize rdRest m lack (q - 1) = m' at hD0 hle
          generalize (!rdOk m lack (q - 1)) = lack' at hD0
          have hD : ∀ n, Duo w (wb.drewN n) 67 50 p1 p2 m' lack' := hD0.drewN
          clear hd hdd ha hb
          obtain ⟨cB, aoB, capB, cA⟩ := hD0.cells
          clear hD0
          go_wp2_with fail
          go_quiet ((first | (go_at_call 44; exact Calls.quiet_of_same ((oct_Lack _ _ _ _ _ (hD _).a).mono fun _ _ h => ⟨h.1, h.2.symm⟩)) | (go_at_call 45; exact Calls.quiet_of_same ((oct_Left _ _ _ _ _ (hD _).a).mono fun _ _ h => ⟨h.1, h.2.symm⟩))))
          clear cA cB
          go_wp2_with fail
          go_roundw
          case rel => exact ⟨k + 1, by omega, by omega, by go_num, _, _, hD _, hle⟩
          case measure => simp [intOf]; omega
      -- Short
      · clear hpn hc1
        go_wp2_with fail
        have hdd := hd.drew
        have hplt := hdd.b.lt
        go_region_with (first | (go_at_call 52; refine (oct_RShort _ _ _ _ _ hdd.a (by omega)).mono ?_; rintro e wa ⟨ao1, cp1, rfl, ho1, hg1, ha, ta⟩; have hs1 := run_str 27 5 9 Try.underlying27 Try.underlying5 Try.underlying9 (src_of_owns ho1 [] (by simp))) | (go_at_call 53; refine (ref_RShort _ _ _ _ _ (hdd.mid ta) (by omega)).mono ?_; rintro e wb ⟨ao2, cp2, rfl, ho2, hg2, hb, tb⟩; have hs2 := run_str 27 5 9 Try.underlying27 Try.underlying5 Try.underlying9 (src_of_owns (ownsRow_tch ho1 tb (fun g hg hx => by have := hg1 g hg; simp only [List.mem_singleton] at hx; omega)) [] (by simp)); have hs3 := run_str 27 5 9 Try.underlying27 Try.underlying5 Try.underlying9 (src_of_owns ho2 [] (by simp))))
        all_goals
          have hD0 := hdd.step ha ta hb tb
          have hle := Nat.le_trans (shRest_le m lack) hml
          clear hs1 hs2 hs3 ho1 ho2 hg1 hg2
          generalize shRest m lack = m' at hD0 hle
          generalize (!shOk m lack) = lack' at hD0
          have hD : ∀ n, Duo w (wb.drewN n) 67 50 p1 p2 m' lack' := hD0.drewN
          clear hd hdd ha hb
          obtain ⟨cB, aoB, capB, cA⟩ := hD0.cells
          clear hD0
          go_wp2_with fail
          go_quiet ((first | (go_at_call 44; exact Calls.quiet_of_same ((oct_Lack _ _ _ _ _ (hD _).a).mono fun _ _ h => ⟨h.1, h.2.symm⟩)) | (go_at_call 45; exact Calls.quiet_of_same ((oct_Left _ _ _ _ _ (hD _).a).mono fun _ _ h => ⟨h.1, h.2.symm⟩))))
          clear cA cB
          go_wp2_with fail
          go_roundw
          case rel => exact ⟨k + 1, by omega, by omega, by go_num, _, _, hD _, hle⟩
          case measure => simp [intOf]; omega
    · have hcases : ¬ k < ls.length ∨ (k < ls.length ∧ ¬ k < 40) := by omega
      have ht := hd.tch
      clear hel hu0 hu hd
      rcases hcases with hk0 | ⟨hk0, hk3⟩
      all_goals
        go_wp2_with fail
        go_ret
        exact ⟨rfl, ht⟩
end Go.Proofs.Ytkakoefdfjooeaa
