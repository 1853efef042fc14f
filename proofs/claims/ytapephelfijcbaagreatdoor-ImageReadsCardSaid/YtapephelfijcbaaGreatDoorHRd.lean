/-
  CONTRACTS: octet.Reader and taciturnref1.Reader take bytes. Conditions: the reader's bytes lie in blocks that nobody turns.
-/
import Derived.Test.YtapephelfijcbaaGreatDoorHOct
import Derived.Laws.BitsAllLaws
namespace Go.Proofs.YtapephelfijcbaaGreatDoor
open Go.RowKit Go.Tcn
set_option linter.unusedVariables false
set_option linter.unusedSimpArgs false
theorem cells_u8 : Tryz.prog.cellsOf 5 = 1 := by kernel_rfl
theorem isinfo_u8 : (Tryz.prog.info? 5).isSome = true := by kernel_rfl

set_option maxHeartbeats 1000000 in
theorem oct_RRaw_fail (w : World) (p : Nat) (L : List Nat) (l : List Int) (lack : Bool) (h : Rd w 116 p L l lack) (n : Int) (hn : -9223372036854775808 ≤ n ∧ n ≤ 9223372036854775807) (hf : lack = true ∨ lack = false ∧ n < 0 ∨ lack = false ∧ 0 ≤ n ∧ (l.length : Int) < n) :
    Calls Tryz.prog 46 #[.pointer (some ⟨p, 0, none⟩), .int .i64 n] w fun e w' => e = .returned (.slice none 0 0) ∧ Rd w' 116 p L [] true ∧ Tch [p] w w' := by
  obtain ⟨ao, cap, hcap, hv, hs⟩ := h.cap
  obtain ⟨c0, c1, f0, f1⟩ := cells_two hv
  have hfin : ∀ w', w'.heap[p]? = some (.cells #[.slice none 0 0, .bool true] 116 (0, 0)) → Rd w' 116 p L [] true := fun w' h => ⟨⟨none, 0, h, ⟨.inl ⟨rfl, rfl, rfl⟩⟩⟩, Byt.nil⟩
  rcases hf with rfl | ⟨rfl, h1⟩ | ⟨rfl, h1, h2⟩
  all_goals
    go_enter Tryz.func46, Tryz.ntmps46
    go_wp2
    go_ret
    refine ⟨rfl, hfin _ ?_, ((Tch.refl [p] w).setCell (by simp) _).setCell (by simp) _⟩
    simp [World.setCell, Array.getElem?_modify, hv]

set_option maxHeartbeats 1000000 in
theorem oct_RRaw_ok (w : World) (p : Nat) (L : List Nat) (l : List Int) (h : Rd w 116 p L l false) (k : Nat) (hk : k ≤ l.length) (hb : l.length ≤ 140737488355328) :
    Calls Tryz.prog 46 #[.pointer (some ⟨p, 0, none⟩), .int .i64 k] w fun e w' => ∃ ao cap, e = .returned (.slice ao k cap) ∧ w'.ownsRow 0 5 1 (.slice ao k cap) k (bys (l.take k)) ∧ (∀ g, (Value.slice ao k cap).ownBlock = some g → w.heap.size ≤ g) ∧ Rd w' 116 p L (l.drop k) false ∧ Tch [p] w w' := by
  obtain ⟨i0, hi, hz0, hz1, hz2⟩ := info_parts info_u8
  have hplt := h.lt
  obtain ⟨ao, cap, hcap, hv, hs⟩ := h.cap
  obtain ⟨c0, cx, f0, fx⟩ := cells_two hv
  have hown0 : (w.alloc (.cells #[] 5)).ownsRow 0 5 1 (.slice (some ⟨w.heap.size, 0, none⟩) 0 0) 0 [] := World.ownsRow_lit w #[] 0 (Nat.zero_le _) (by decide) rfl
  have ta : Tch [] w (w.alloc (.cells #[] 5)) := (Tch.refl [] w).alloc _
  have hsrc : Src (w.alloc (.cells #[] 5)) (p :: L) (.slice ao k cap) k ((bys l).take (k * 1)) := (hs.cut_h hk).tch ta (by simp)
  have hone : ∀ u ∈ (bys l).take (k * 1), u.oneCell' = true := fun u hu => bys_one l u (List.mem_of_mem_take hu)
  have hbn : 0 + k ≤ 9223372036854775807 ∧ (0 + k) * 1 ≤ 140737488355328 := by omega
  have hp1 : p < (w.alloc (.cells #[] 5)).heap.size := by simp; omega
  have hne1 : some p ≠ (Value.slice (some ⟨w.heap.size, 0, none⟩) 0 0).ownBlock := by simp [Value.ownBlock]; omega
  have c0' : (w.alloc (.cells #[] 5)).cell? ⟨p, 0, none⟩ = some (.slice ao l.length cap) := (World.cell?_alloc_past _ _ _ hplt).trans c0
  have f0' : (w.alloc (.cells #[] 5)).frozen? ⟨p, 0, none⟩ = false := (World.frozen?_alloc_past _ _ _ hplt).trans f0
  have hs1 := run_cut_h (P := Tryz.prog) 30 5 1 Tryz.underlying30 cells_u8 isinfo_u8 ao l.length cap k (by omega)
  have hs2 := run_cut_l (P := Tryz.prog) 30 5 1 Tryz.underlying30 cells_u8 isinfo_u8 ao l.length cap k hk
  have hk1 : ¬ (l.length : Int) < (k : Int) := by omega
  have hk2 : ¬ (k : Int) < 0 := by omega
  go_enter Tryz.func46, Tryz.ntmps46
  go_wp2_with (at_builtin; refine wpList_append_any _ rfl (.tmp 29) (.tmp 35) 30 rfl 5 i0 (.int .u8 0) 1 1 Tryz.underlying30 hi hz0 hz1 hz2 rfl (by decide) (.slice (some ⟨w.heap.size, 0, none⟩) 0 0) 0 [] rfl hown0 (p :: L) (.slice ao k cap) k ((bys l).take (k * 1)) rfl hsrc (by simp; omega) hone hbn ?_; intro ao1 cap1 w1 hown hgrow hat; have c1 := (hgrow.cell_far ⟨p, 0, none⟩ hp1 hne1).trans c0'; have f1 := (hgrow.frozen_far ⟨p, 0, none⟩ hp1 hne1).trans f0')
  go_ret
  simp only [Nat.zero_add, List.nil_append, Nat.mul_one] at hown hat ⊢
  have hv1 : w1.heap[p]? = some (.cells #[.slice ao l.length cap, .bool false] 116 (0, 0)) := by
    rw [hgrow.block p hp1 hne1, ta.block p hplt (by simp)]; exact hv
  have t1 : Tch [] w w1 := ta.grown hgrow (by intro k hk; simp [Value.ownBlock] at hk; omega)
  have hge : ∀ g, (Value.slice ao1 k cap1).ownBlock = some g → w.heap.size ≤ g := by
    intro g hg
    rcases hat with h | h
    · rw [h] at hg; simp [Value.ownBlock] at hg; omega
    · rw [h] at hg; simp at hg; omega
  have hs3 := ((hs.cut_l (sz := 1) hk (by simp)).tch t1 (by simp)).tch (L' := [p]) ((Tch.refl [p] w1).setCell (p := ⟨p, 0, none⟩) (by simp) (.slice (cutA ao k 1 cap) (l.length - k) (cap - k))) (by simp)
  refine ⟨_, _, rfl, ?_, hge, ⟨⟨cutA ao k 1 cap, cap - k, ?_, ?_⟩, h.byt.drop _⟩, (t1.nil (L := [p])).setCell (by simp) _⟩
  · have := ownsRow_setCell_other (a := ⟨p, 0, none⟩) hown (by intro h; have := hge p h; omega) (.slice (cutA ao k 1 cap) (l.length - k) (cap - k))
    simpa [bys] using this
  · rw [List.length_drop]; exact setCell_two_0 hv1
  · rw [List.length_drop]; simpa [bys] using hs3

/-- A taking of n bytes, in order or not. -/
theorem oct_RRaw (w : World) (p : Nat) (L : List Nat) (l : List Int) (lack : Bool) (h : Rd w 116 p L l lack) (n : Int) (hn : -9223372036854775808 ≤ n ∧ n ≤ 9223372036854775807) (hb : l.length ≤ 140737488355328) :
    Calls Tryz.prog 46 #[.pointer (some ⟨p, 0, none⟩), .int .i64 n] w fun e w' => ∃ ao cap, e = .returned (.slice ao (rdOut l lack n).length cap) ∧ w'.ownsRow 0 5 1 (.slice ao (rdOut l lack n).length cap) (rdOut l lack n).length (bys (rdOut l lack n)) ∧ (∀ g, (Value.slice ao (rdOut l lack n).length cap).ownBlock = some g → w.heap.size ≤ g) ∧ Rd w' 116 p L (rdRest l lack n) (!rdOk l lack n) ∧ Tch [p] w w' := by
  by_cases hok : rdOk l lack n = true
  · have h1 := hok
    simp [rdOk] at h1
    obtain ⟨⟨rfl, h2⟩, h3⟩ := h1
    obtain ⟨k, rfl⟩ := Int.eq_ofNat_of_zero_le h2
    have hk : k ≤ l.length := by omega
    refine (oct_RRaw_ok w p L l h k hk hb).mono fun e w' ⟨ao, cap, he, ho, hg, hr, ht⟩ => ?_
    have e1 : rdOut l false k = l.take k := by simp [rdOut, hok]
    have e2 : rdRest l false k = l.drop k := by simp [rdRest, hok]
    have e3 : (l.take k).length = k := by simp; omega
    rw [e1, e2, e3, hok]
    exact ⟨ao, cap, he, ho, hg, hr, ht⟩
  · have h1 := hok
    simp [rdOk] at h1
    refine (oct_RRaw_fail w p L l lack h n hn ?_).mono fun e w' ⟨he, hr, ht⟩ => ?_
    · cases lack
      · by_cases h2 : n < 0
        · exact .inr (.inl ⟨rfl, h2⟩)
        · exact .inr (.inr ⟨rfl, by omega, h1 rfl (by omega)⟩)
      · exact .inl rfl
    · have e1 : rdOut l lack n = [] := by simp [rdOut, hok]
      have e2 : rdRest l lack n = [] := by simp [rdRest, hok]
      have e3 : rdOk l lack n = false := by simpa using hok
      rw [e1, e2, e3]
      exact ⟨none, 0, he, World.ownsRow_nil _ _ _ _, by simp [Value.ownBlock], hr, ht⟩

set_option maxHeartbeats 1000000 in
theorem ref_RRaw_fail (w : World) (p : Nat) (L : List Nat) (l : List Int) (lack : Bool) (h : Rd w 89 p L l lack) (n : Int) (hn : -9223372036854775808 ≤ n ∧ n ≤ 9223372036854775807) (hf : lack = true ∨ lack = false ∧ n < 0 ∨ lack = false ∧ 0 ≤ n ∧ (l.length : Int) < n) :
    Calls Tryz.prog 57 #[.pointer (some ⟨p, 0, none⟩), .int .i64 n] w fun e w' => e = .returned (.slice none 0 0) ∧ Rd w' 89 p L [] true ∧ Tch [p] w w' := by
  obtain ⟨ao, cap, hcap, hv, hs⟩ := h.cap
  obtain ⟨c0, c1, f0, f1⟩ := cells_two hv
  have hfin : ∀ w', w'.heap[p]? = some (.cells #[.slice none 0 0, .bool true] 89 (0, 0)) → Rd w' 89 p L [] true := fun w' h => ⟨⟨none, 0, h, ⟨.inl ⟨rfl, rfl, rfl⟩⟩⟩, Byt.nil⟩
  rcases hf with rfl | ⟨rfl, h1⟩ | ⟨rfl, h1, h2⟩
  all_goals
    go_enter Tryz.func57, Tryz.ntmps57
    go_wp2
    go_ret
    refine ⟨rfl, hfin _ ?_, ((Tch.refl [p] w).setCell (by simp) _).setCell (by simp) _⟩
    simp [World.setCell, Array.getElem?_modify, hv]

set_option maxHeartbeats 1000000 in
theorem ref_RRaw_ok (w : World) (p : Nat) (L : List Nat) (l : List Int) (h : Rd w 89 p L l false) (k : Nat) (hk : k ≤ l.length) (hb : l.length ≤ 140737488355328) :
    Calls Tryz.prog 57 #[.pointer (some ⟨p, 0, none⟩), .int .i64 k] w fun e w' => ∃ ao cap, e = .returned (.slice ao k cap) ∧ w'.ownsRow 0 5 1 (.slice ao k cap) k (bys (l.take k)) ∧ (∀ g, (Value.slice ao k cap).ownBlock = some g → w.heap.size ≤ g) ∧ Rd w' 89 p L (l.drop k) false ∧ Tch [p] w w' := by
  obtain ⟨i0, hi, hz0, hz1, hz2⟩ := info_parts info_u8
  have hplt := h.lt
  obtain ⟨ao, cap, hcap, hv, hs⟩ := h.cap
  obtain ⟨c0, cx, f0, fx⟩ := cells_two hv
  have hown0 : (w.alloc (.cells #[] 5)).ownsRow 0 5 1 (.slice (some ⟨w.heap.size, 0, none⟩) 0 0) 0 [] := World.ownsRow_lit w #[] 0 (Nat.zero_le _) (by decide) rfl
  have ta : Tch [] w (w.alloc (.cells #[] 5)) := (Tch.refl [] w).alloc _
  have hsrc : Src (w.alloc (.cells #[] 5)) (p :: L) (.slice ao k cap) k ((bys l).take (k * 1)) := (hs.cut_h hk).tch ta (by simp)
  have hone : ∀ u ∈ (bys l).take (k * 1), u.oneCell' = true := fun u hu => bys_one l u (List.mem_of_mem_take hu)
  have hbn : 0 + k ≤ 9223372036854775807 ∧ (0 + k) * 1 ≤ 140737488355328 := by omega
  have hp1 : p < (w.alloc (.cells #[] 5)).heap.size := by simp; omega
  have hne1 : some p ≠ (Value.slice (some ⟨w.heap.size, 0, none⟩) 0 0).ownBlock := by simp [Value.ownBlock]; omega
  have c0' : (w.alloc (.cells #[] 5)).cell? ⟨p, 0, none⟩ = some (.slice ao l.length cap) := (World.cell?_alloc_past _ _ _ hplt).trans c0
  have f0' : (w.alloc (.cells #[] 5)).frozen? ⟨p, 0, none⟩ = false := (World.frozen?_alloc_past _ _ _ hplt).trans f0
  have hs1 := run_cut_h (P := Tryz.prog) 30 5 1 Tryz.underlying30 cells_u8 isinfo_u8 ao l.length cap k (by omega)
  have hs2 := run_cut_l (P := Tryz.prog) 30 5 1 Tryz.underlying30 cells_u8 isinfo_u8 ao l.length cap k hk
  have hk1 : ¬ (l.length : Int) < (k : Int) := by omega
  have hk2 : ¬ (k : Int) < 0 := by omega
  go_enter Tryz.func57, Tryz.ntmps57
  go_wp2_with (at_builtin; refine wpList_append_any _ rfl (.tmp 29) (.tmp 35) 30 rfl 5 i0 (.int .u8 0) 1 1 Tryz.underlying30 hi hz0 hz1 hz2 rfl (by decide) (.slice (some ⟨w.heap.size, 0, none⟩) 0 0) 0 [] rfl hown0 (p :: L) (.slice ao k cap) k ((bys l).take (k * 1)) rfl hsrc (by simp; omega) hone hbn ?_; intro ao1 cap1 w1 hown hgrow hat; have c1 := (hgrow.cell_far ⟨p, 0, none⟩ hp1 hne1).trans c0'; have f1 := (hgrow.frozen_far ⟨p, 0, none⟩ hp1 hne1).trans f0')
  go_ret
  simp only [Nat.zero_add, List.nil_append, Nat.mul_one] at hown hat ⊢
  have hv1 : w1.heap[p]? = some (.cells #[.slice ao l.length cap, .bool false] 89 (0, 0)) := by
    rw [hgrow.block p hp1 hne1, ta.block p hplt (by simp)]; exact hv
  have t1 : Tch [] w w1 := ta.grown hgrow (by intro k hk; simp [Value.ownBlock] at hk; omega)
  have hge : ∀ g, (Value.slice ao1 k cap1).ownBlock = some g → w.heap.size ≤ g := by
    intro g hg
    rcases hat with h | h
    · rw [h] at hg; simp [Value.ownBlock] at hg; omega
    · rw [h] at hg; simp at hg; omega
  have hs3 := ((hs.cut_l (sz := 1) hk (by simp)).tch t1 (by simp)).tch (L' := [p]) ((Tch.refl [p] w1).setCell (p := ⟨p, 0, none⟩) (by simp) (.slice (cutA ao k 1 cap) (l.length - k) (cap - k))) (by simp)
  refine ⟨_, _, rfl, ?_, hge, ⟨⟨cutA ao k 1 cap, cap - k, ?_, ?_⟩, h.byt.drop _⟩, (t1.nil (L := [p])).setCell (by simp) _⟩
  · have := ownsRow_setCell_other (a := ⟨p, 0, none⟩) hown (by intro h; have := hge p h; omega) (.slice (cutA ao k 1 cap) (l.length - k) (cap - k))
    simpa [bys] using this
  · rw [List.length_drop]; exact setCell_two_0 hv1
  · rw [List.length_drop]; simpa [bys] using hs3

/-- A taking of n bytes, in order or not. -/
theorem ref_RRaw (w : World) (p : Nat) (L : List Nat) (l : List Int) (lack : Bool) (h : Rd w 89 p L l lack) (n : Int) (hn : -9223372036854775808 ≤ n ∧ n ≤ 9223372036854775807) (hb : l.length ≤ 140737488355328) :
    Calls Tryz.prog 57 #[.pointer (some ⟨p, 0, none⟩), .int .i64 n] w fun e w' => ∃ ao cap, e = .returned (.slice ao (rdOut l lack n).length cap) ∧ w'.ownsRow 0 5 1 (.slice ao (rdOut l lack n).length cap) (rdOut l lack n).length (bys (rdOut l lack n)) ∧ (∀ g, (Value.slice ao (rdOut l lack n).length cap).ownBlock = some g → w.heap.size ≤ g) ∧ Rd w' 89 p L (rdRest l lack n) (!rdOk l lack n) ∧ Tch [p] w w' := by
  by_cases hok : rdOk l lack n = true
  · have h1 := hok
    simp [rdOk] at h1
    obtain ⟨⟨rfl, h2⟩, h3⟩ := h1
    obtain ⟨k, rfl⟩ := Int.eq_ofNat_of_zero_le h2
    have hk : k ≤ l.length := by omega
    refine (ref_RRaw_ok w p L l h k hk hb).mono fun e w' ⟨ao, cap, he, ho, hg, hr, ht⟩ => ?_
    have e1 : rdOut l false k = l.take k := by simp [rdOut, hok]
    have e2 : rdRest l false k = l.drop k := by simp [rdRest, hok]
    have e3 : (l.take k).length = k := by simp; omega
    rw [e1, e2, e3, hok]
    exact ⟨ao, cap, he, ho, hg, hr, ht⟩
  · have h1 := hok
    simp [rdOk] at h1
    refine (ref_RRaw_fail w p L l lack h n hn ?_).mono fun e w' ⟨he, hr, ht⟩ => ?_
    · cases lack
      · by_cases h2 : n < 0
        · exact .inr (.inl ⟨rfl, h2⟩)
        · exact .inr (.inr ⟨rfl, by omega, h1 rfl (by omega)⟩)
      · exact .inl rfl
    · have e1 : rdOut l lack n = [] := by simp [rdOut, hok]
      have e2 : rdRest l lack n = [] := by simp [rdRest, hok]
      have e3 : rdOk l lack n = false := by simpa using hok
      rw [e1, e2, e3]
      exact ⟨none, 0, he, World.ownsRow_nil _ _ _ _, by simp [Value.ownBlock], hr, ht⟩

theorem or_u32 (x c : Int) (h0 : 0 ≤ x) (h1 : 256 * x < 4294967296) (h2 : 0 ≤ c) (h3 : c ≤ 255) : bits .or .u32 (x * 256) c = 256 * x + c := by
  obtain ⟨a, rfl⟩ := Int.eq_ofNat_of_zero_le h0
  obtain ⟨b, rfl⟩ := Int.eq_ofNat_of_zero_le h2
  rw [u32_or _ _ (by omega) (by omega) (by omega) (by omega)]
  have e : ((a : Int) * 256).toNat = a * 256 := by omega
  rw [e, Int.toNat_natCast, nat_join 8 _ _ (by omega) (by omega)]
  omega

theorem pow_le4 (m : Nat) (h : m ≤ 4) : (256 : Int) ^ m ≤ 4294967296 := by
  match m, h with
  | 0, _ => decide
  | 1, _ => decide
  | 2, _ => decide
  | 3, _ => decide
  | 4, _ => decide
theorem rd_bound (l : List Int) (lack : Bool) (n : Int) (hb : Byt l) (hn : 0 ≤ n ∧ n ≤ 4) : 0 ≤ beN (rdOut l lack n) ∧ beN (rdOut l lack n) ≤ 4294967295 := by
  have hbyt : Byt (rdOut l lack n) := by unfold rdOut; split; exact hb.take _; exact Byt.nil
  have h1 := beN_lt _ hbyt
  have hle : (rdOut l lack n).length ≤ 4 := by unfold rdOut; split <;> simp; omega
  have h2 := pow_le4 _ hle
  omega
def shOk (l : List Int) (lack : Bool) : Bool := rdOk (rdRest l lack 1) (!rdOk l lack 1) (beN (rdOut l lack 1))
def shOut (l : List Int) (lack : Bool) : List Int := rdOut (rdRest l lack 1) (!rdOk l lack 1) (beN (rdOut l lack 1))
def shRest (l : List Int) (lack : Bool) : List Int := rdRest (rdRest l lack 1) (!rdOk l lack 1) (beN (rdOut l lack 1))

set_option maxHeartbeats 1000000 in
theorem oct_get (w : World) (p : Nat) (L : List Nat) (l : List Int) (lack : Bool) (h : Rd w 116 p L l lack) (n : Int) (hn : 0 ≤ n ∧ n ≤ 4) (hb : l.length ≤ 140737488355328) :
    Calls Tryz.prog 114 #[.pointer (some ⟨p, 0, none⟩), .int .i64 n] w fun e w' => e = .returned (.int .u32 (beN (rdOut l lack n))) ∧ Rd w' 116 p L (rdRest l lack n) (!rdOk l lack n) ∧ Tch [p] w w' := by
  have hlen : (rdOut l lack n).length ≤ 4 := by unfold rdOut; split <;> simp; omega
  have hbyt : Byt (rdOut l lack n) := by unfold rdOut; split; exact h.byt.take _; exact Byt.nil
  go_enter Tryz.func114, Tryz.ntmps114
  go_wp2_with (go_at_call 46; refine (oct_RRaw _ p L l lack h n (by omega) hb).mono ?_; rintro e w1 ⟨ao, cap, rfl, hown, hge, hr, ht⟩)
  have HR := Lib.hid hr; have HT := Lib.hid ht; clear hr ht hge
  generalize ho : rdOut l lack n = o at *
  have HO := Lib.hid ho; clear ho
  go_loop [5, 12] (fun v i => ∃ k : Nat, k ≤ o.length ∧ i = .int .i64 k ∧ v = .int .u32 (beN (o.take k))) (fun _ i => o.length - (intOf i).toNat)
  case atStart => exact ⟨0, Nat.zero_le _, rfl, rfl⟩
  case round =>
    obtain ⟨k, hk, rfl, rfl⟩ := hrel
    by_cases hlt : k < o.length
    · obtain ⟨g, cap', hform, hg0, hg1⟩ := World.ownsRow.form hown (by omega)
      simp only [Value.slice.injEq] at hform
      obtain ⟨rfl, _, rfl⟩ := hform
      have hcell : w1.cell? ⟨g, k, none⟩ = some (.int .u8 o[k]) := by rw [hown.cellAt k (by omega)]; simp [bys, hlt]
      have hB := beN_lt (o.take k) (hbyt.take k)
      have hP : (256 : Int) ^ (o.take k).length ≤ 16777216 := by
        have : (o.take k).length = k := by simp; omega
        rw [this]
        match k, (show k ≤ 3 by omega) with
        | 0, _ => decide
        | 1, _ => decide
        | 2, _ => decide
        | 3, _ => decide
      have hsn : beN (o.take (k + 1)) = 256 * beN (o.take k) + o[k] := by rw [List.take_succ_eq_append_getElem hlt, beN_snoc]
      have hc := hbyt o[k] (List.getElem_mem hlt)
      have HS := Lib.hid hsn; clear hsn
      generalize hX : beN (o.take k) = X at *
      generalize hcc : o[k] = c at *
      clear hX hcc
      obtain ⟨hx0, hx1⟩ := hB
      obtain ⟨hc0, hc1⟩ := hc
      have hx2 : X < 16777216 := by omega
      clear hx1 hP hown
      have hsh : IntKind.u32.wrap (X * 256) = X * 256 := by rw [IntKind.wrap_u32']; omega
      have hor : bits .or .u32 (X * 256) c = 256 * X + c := or_u32 X c hx0 (by omega) hc0 hc1
      go_wp2
      go_round
      case rel => exact ⟨k + 1, by omega, by go_num, by rw [HS.out]⟩
      case measure => simp [intOf]; omega
    · have hke : k = o.length := by omega
      subst hke
      clear hown
      go_wp2
      go_ret
      exact ⟨by rw [HO.out]; simp only [List.take_length]; rfl, HR.out, HT.out⟩

set_option maxHeartbeats 1000000 in
theorem ref_get (w : World) (p : Nat) (L : List Nat) (l : List Int) (lack : Bool) (h : Rd w 89 p L l lack) (n : Int) (hn : 0 ≤ n ∧ n ≤ 4) (hb : l.length ≤ 140737488355328) :
    Calls Tryz.prog 98 #[.pointer (some ⟨p, 0, none⟩), .int .i64 n] w fun e w' => e = .returned (.int .i64 (beN (rdOut l lack n))) ∧ Rd w' 89 p L (rdRest l lack n) (!rdOk l lack n) ∧ Tch [p] w w' := by
  have hlen : (rdOut l lack n).length ≤ 4 := by unfold rdOut; split <;> simp; omega
  have hbyt : Byt (rdOut l lack n) := by unfold rdOut; split; exact h.byt.take _; exact Byt.nil
  go_enter Tryz.func98, Tryz.ntmps98
  go_wp2_with (go_at_call 57; refine (ref_RRaw _ p L l lack h n (by omega) hb).mono ?_; rintro e w1 ⟨ao, cap, rfl, hown, hge, hr, ht⟩)
  have HR := Lib.hid hr; have HT := Lib.hid ht; clear hr ht hge
  generalize ho : rdOut l lack n = o at *
  have HO := Lib.hid ho; clear ho
  go_loop [6, 7] (fun v i => ∃ k : Nat, k ≤ o.length ∧ i = .int .i64 k ∧ v = .int .i64 (beN (o.take k))) (fun _ i => o.length - (intOf i).toNat)
  case atStart => exact ⟨0, Nat.zero_le _, rfl, rfl⟩
  case round =>
    obtain ⟨k, hk, rfl, rfl⟩ := hrel
    by_cases hlt : k < o.length
    · obtain ⟨g, cap', hform, hg0, hg1⟩ := World.ownsRow.form hown (by omega)
      simp only [Value.slice.injEq] at hform
      obtain ⟨rfl, _, rfl⟩ := hform
      have hcell : w1.cell? ⟨g, k, none⟩ = some (.int .u8 o[k]) := by rw [hown.cellAt k (by omega)]; simp [bys, hlt]
      have hB := beN_lt (o.take k) (hbyt.take k)
      have hP : (256 : Int) ^ (o.take k).length ≤ 16777216 := by
        have : (o.take k).length = k := by simp; omega
        rw [this]
        match k, (show k ≤ 3 by omega) with
        | 0, _ => decide
        | 1, _ => decide
        | 2, _ => decide
        | 3, _ => decide
      have hsn : beN (o.take (k + 1)) = 256 * beN (o.take k) + o[k] := by rw [List.take_succ_eq_append_getElem hlt, beN_snoc]
      have hc := hbyt o[k] (List.getElem_mem hlt)
      have HS := Lib.hid hsn; clear hsn
      generalize hX : beN (o.take k) = X at *
      generalize hcc : o[k] = c at *
      clear hX hcc
      obtain ⟨hx0, hx1⟩ := hB
      obtain ⟨hc0, hc1⟩ := hc
      have hx2 : X < 16777216 := by omega
      clear hx1 hP hown
      have hsh : IntKind.i64.wrap (256 * X) = 256 * X := IntWalk.i64_in _ (by omega)
      have hor : IntKind.i64.wrap (256 * X + c) = 256 * X + c := IntWalk.i64_in _ (by omega)
      go_wp2
      go_round
      case rel => exact ⟨k + 1, by omega, by go_num, by rw [HS.out]⟩
      case measure => simp [intOf]; omega
    · have hke : k = o.length := by omega
      subst hke
      clear hown
      go_wp2
      go_ret
      exact ⟨by rw [HO.out]; simp only [List.take_length]; rfl, HR.out, HT.out⟩

set_option maxHeartbeats 400000 in
theorem oct_RU8 (w : World) (p : Nat) (L : List Nat) (l : List Int) (lack : Bool) (h : Rd w 116 p L l lack) (hb : l.length ≤ 140737488355328) :
    Calls Tryz.prog 94 #[.pointer (some ⟨p, 0, none⟩)] w fun e w' => e = .returned (.int .i64 (beN (rdOut l lack 1))) ∧ Rd w' 116 p L (rdRest l lack 1) (!rdOk l lack 1) ∧ Tch [p] w w' := by
  have hB := rd_bound l lack 1 h.byt (by omega)
  go_enter Tryz.func94, Tryz.ntmps94
  go_wp2_with (go_at_call 114; refine (oct_get _ p L l lack h 1 (by omega) hb).mono ?_; rintro e w1 ⟨rfl, hr, ht⟩)
  go_ret
  exact ⟨rfl, hr, ht⟩

set_option maxHeartbeats 400000 in
theorem ref_RU8 (w : World) (p : Nat) (L : List Nat) (l : List Int) (lack : Bool) (h : Rd w 89 p L l lack) (hb : l.length ≤ 140737488355328) :
    Calls Tryz.prog 60 #[.pointer (some ⟨p, 0, none⟩)] w fun e w' => e = .returned (.int .i64 (beN (rdOut l lack 1))) ∧ Rd w' 89 p L (rdRest l lack 1) (!rdOk l lack 1) ∧ Tch [p] w w' := by
  have hB := rd_bound l lack 1 h.byt (by omega)
  go_enter Tryz.func60, Tryz.ntmps60
  go_wp2_with (go_at_call 98; refine (ref_get _ p L l lack h 1 (by omega) hb).mono ?_; rintro e w1 ⟨rfl, hr, ht⟩)
  go_ret
  exact ⟨rfl, hr, ht⟩

set_option maxHeartbeats 400000 in
theorem oct_RU16 (w : World) (p : Nat) (L : List Nat) (l : List Int) (lack : Bool) (h : Rd w 116 p L l lack) (hb : l.length ≤ 140737488355328) :
    Calls Tryz.prog 117 #[.pointer (some ⟨p, 0, none⟩)] w fun e w' => e = .returned (.int .i64 (beN (rdOut l lack 2))) ∧ Rd w' 116 p L (rdRest l lack 2) (!rdOk l lack 2) ∧ Tch [p] w w' := by
  have hB := rd_bound l lack 2 h.byt (by omega)
  go_enter Tryz.func117, Tryz.ntmps117
  go_wp2_with (go_at_call 114; refine (oct_get _ p L l lack h 2 (by omega) hb).mono ?_; rintro e w1 ⟨rfl, hr, ht⟩)
  go_ret
  exact ⟨rfl, hr, ht⟩

set_option maxHeartbeats 400000 in
theorem ref_RU16 (w : World) (p : Nat) (L : List Nat) (l : List Int) (lack : Bool) (h : Rd w 89 p L l lack) (hb : l.length ≤ 140737488355328) :
    Calls Tryz.prog 100 #[.pointer (some ⟨p, 0, none⟩)] w fun e w' => e = .returned (.int .i64 (beN (rdOut l lack 2))) ∧ Rd w' 89 p L (rdRest l lack 2) (!rdOk l lack 2) ∧ Tch [p] w w' := by
  have hB := rd_bound l lack 2 h.byt (by omega)
  go_enter Tryz.func100, Tryz.ntmps100
  go_wp2_with (go_at_call 98; refine (ref_get _ p L l lack h 2 (by omega) hb).mono ?_; rintro e w1 ⟨rfl, hr, ht⟩)
  go_ret
  exact ⟨rfl, hr, ht⟩

set_option maxHeartbeats 400000 in
theorem oct_RS32 (w : World) (p : Nat) (L : List Nat) (l : List Int) (lack : Bool) (h : Rd w 116 p L l lack) (hb : l.length ≤ 140737488355328) :
    Calls Tryz.prog 116 #[.pointer (some ⟨p, 0, none⟩)] w fun e w' => e = .returned (.int .i64 (s32 (beN (rdOut l lack 4)))) ∧ Rd w' 116 p L (rdRest l lack 4) (!rdOk l lack 4) ∧ Tch [p] w w' := by
  have hB := rd_bound l lack 4 h.byt (by omega)
  go_enter Tryz.func116, Tryz.ntmps116
  go_wp2_with (go_at_call 114; refine (oct_get _ p L l lack h 4 (by omega) hb).mono ?_; rintro e w1 ⟨rfl, hr, ht⟩)
  go_ret
  exact ⟨by rw [← wrap_s32]; rfl, hr, ht⟩

set_option maxHeartbeats 400000 in
theorem ref_RS32 (w : World) (p : Nat) (L : List Nat) (l : List Int) (lack : Bool) (h : Rd w 89 p L l lack) (hb : l.length ≤ 140737488355328) :
    Calls Tryz.prog 99 #[.pointer (some ⟨p, 0, none⟩)] w fun e w' => e = .returned (.int .i64 (s32 (beN (rdOut l lack 4)))) ∧ Rd w' 89 p L (rdRest l lack 4) (!rdOk l lack 4) ∧ Tch [p] w w' := by
  have hB := rd_bound l lack 4 h.byt (by omega)
  go_enter Tryz.func99, Tryz.ntmps99
  go_wp2_with (go_at_call 98; refine (ref_get _ p L l lack h 4 (by omega) hb).mono ?_; rintro e w1 ⟨rfl, hr, ht⟩)
  go_ret
  exact ⟨by rw [← wrap_s32]; rfl, hr, ht⟩

set_option maxHeartbeats 400000 in
theorem oct_RShort (w : World) (p : Nat) (L : List Nat) (l : List Int) (lack : Bool) (h : Rd w 116 p L l lack) (hb : l.length ≤ 140737488355328) :
    Calls Tryz.prog 48 #[.pointer (some ⟨p, 0, none⟩)] w fun e w' => ∃ ao cap, e = .returned (.slice ao (shOut l lack).length cap) ∧ w'.ownsRow 0 5 1 (.slice ao (shOut l lack).length cap) (shOut l lack).length (bys (shOut l lack)) ∧ (∀ g, (Value.slice ao (shOut l lack).length cap).ownBlock = some g → w.heap.size ≤ g) ∧ Rd w' 116 p L (shRest l lack) (!shOk l lack) ∧ Tch [p] w w' := by
  have hB := rd_bound l lack 1 h.byt (by omega)
  have hlr : (rdRest l lack 1).length ≤ 140737488355328 := by unfold rdRest; split <;> simp; omega
  unfold shOut shRest shOk
  go_enter Tryz.func48, Tryz.ntmps48
  go_wp2_with (first | (go_at_call 94; refine (oct_RU8 _ p L l lack h hb).mono ?_; rintro e w1 ⟨rfl, hr1, ht1⟩) | (go_at_call 46; refine (oct_RRaw _ p L _ _ hr1 _ (by omega) hlr).mono ?_; rintro e w2 ⟨ao, cap, rfl, hown, hge, hr2, ht2⟩))
  go_ret
  exact ⟨ao, cap, rfl, hown, fun g hg => Nat.le_trans ht1.size (hge g hg), hr2, ht1.trans ht2 (fun _ _ x => x) (fun _ _ x => x)⟩

set_option maxHeartbeats 400000 in
theorem ref_RShort (w : World) (p : Nat) (L : List Nat) (l : List Int) (lack : Bool) (h : Rd w 89 p L l lack) (hb : l.length ≤ 140737488355328) :
    Calls Tryz.prog 58 #[.pointer (some ⟨p, 0, none⟩)] w fun e w' => ∃ ao cap, e = .returned (.slice ao (shOut l lack).length cap) ∧ w'.ownsRow 0 5 1 (.slice ao (shOut l lack).length cap) (shOut l lack).length (bys (shOut l lack)) ∧ (∀ g, (Value.slice ao (shOut l lack).length cap).ownBlock = some g → w.heap.size ≤ g) ∧ Rd w' 89 p L (shRest l lack) (!shOk l lack) ∧ Tch [p] w w' := by
  have hB := rd_bound l lack 1 h.byt (by omega)
  have hlr : (rdRest l lack 1).length ≤ 140737488355328 := by unfold rdRest; split <;> simp; omega
  unfold shOut shRest shOk
  go_enter Tryz.func58, Tryz.ntmps58
  go_wp2_with (first | (go_at_call 60; refine (ref_RU8 _ p L l lack h hb).mono ?_; rintro e w1 ⟨rfl, hr1, ht1⟩) | (go_at_call 57; refine (ref_RRaw _ p L _ _ hr1 _ (by omega) hlr).mono ?_; rintro e w2 ⟨ao, cap, rfl, hown, hge, hr2, ht2⟩))
  go_ret
  exact ⟨ao, cap, rfl, hown, fun g hg => Nat.le_trans ht1.size (hge g hg), hr2, ht1.trans ht2 (fun _ _ x => x) (fun _ _ x => x)⟩

theorem oct_Lack (w : World) (p : Nat) (L : List Nat) (l : List Int) (lack : Bool) (h : Rd w 116 p L l lack) :
    Calls Tryz.prog 47 #[.pointer (some ⟨p, 0, none⟩)] w fun e w' => e = .returned (.bool lack) ∧ w = w' := by
  obtain ⟨ao, cap, hcap, hv, hs⟩ := h.cap
  obtain ⟨c0, c1, f0, f1⟩ := cells_two hv
  go_enter Tryz.func47, Tryz.ntmps47
  go_wp2
  go_ret
  exact ⟨rfl, rfl⟩
theorem oct_Left (w : World) (p : Nat) (L : List Nat) (l : List Int) (lack : Bool) (h : Rd w 116 p L l lack) :
    Calls Tryz.prog 56 #[.pointer (some ⟨p, 0, none⟩)] w fun e w' => e = .returned (.int .i64 l.length) ∧ w = w' := by
  obtain ⟨ao, cap, hcap, hv, hs⟩ := h.cap
  obtain ⟨c0, c1, f0, f1⟩ := cells_two hv
  go_enter Tryz.func56, Tryz.ntmps56
  go_wp2
  go_ret
  exact ⟨rfl, rfl⟩
set_option maxHeartbeats 400000 in
theorem oct_NewReader (w : World) (L : List Nat) (hL : ∀ i ∈ L, i < w.heap.size) (L' : List Nat) (x : Value) (b : List Int) (hx : Src w L' x b.length (bys b)) (hbt : Byt b) (hb : b.length ≤ 140737488355328) :
    Calls Tryz.prog 45 #[x] w fun e w' => ∃ p, e = .returned (.pointer (some ⟨p, 0, none⟩)) ∧ w.heap.size ≤ p ∧ Rd w' 116 p L b false ∧ Tch [] w w' := by
  obtain ⟨i0, hi, hz0, hz1, hz2⟩ := info_parts info_u8
  have ta : Tch [] w (w.alloc (.cells #[] 5)) := (Tch.refl [] w).alloc _
  have hown0 : (w.alloc (.cells #[] 5)).ownsRow 0 5 1 (.slice (some ⟨w.heap.size, 0, none⟩) 0 0) 0 [] := World.ownsRow_lit w #[] 0 (Nat.zero_le _) (by decide) rfl
  have hsrc : Src (w.alloc (.cells #[] 5)) L' x b.length (bys b) := hx.tch ta (by simp)
  have hbn : 0 + b.length ≤ 9223372036854775807 ∧ (0 + b.length) * 1 ≤ 140737488355328 := by omega
  go_enter Tryz.func45, Tryz.ntmps45
  go_wp2_with (at_builtin; refine wpList_append_any _ rfl (.tmp 3) (.tmp 4) 30 rfl 5 i0 (.int .u8 0) 1 1 Tryz.underlying30 hi hz0 hz1 hz2 rfl (by decide) (.slice (some ⟨w.heap.size, 0, none⟩) 0 0) 0 [] rfl hown0 L' x b.length (bys b) rfl hsrc (by simp) (bys_one b) hbn ?_; intro ao1 cap1 w1 hown hgrow hat)
  go_ret
  simp only [Nat.zero_add, List.nil_append] at hown hat ⊢
  have t1 : Tch [] w w1 := ta.grown hgrow (by intro k hk; simp [Value.ownBlock] at hk; omega)
  have hge : ∀ g, (Value.slice ao1 b.length cap1).ownBlock = some g → w.heap.size ≤ g := by
    intro g hg
    rcases hat with h | h
    · rw [h] at hg; simp [Value.ownBlock] at hg; omega
    · rw [h] at hg; simp at hg; omega
  have hlt := World.ownsRow.lt hown
  refine ⟨_, rfl, t1.size, ⟨⟨ao1, cap1, heap_alloc_new w1 _, src_of_owns (hown.alloc _) _ (fun g hg hx => ?_)⟩, hbt⟩, t1.alloc _⟩
  have h1 := hge g hg
  have h2 := (hlt g hg).2
  simp at hx
  rcases hx with hx | hx
  · omega
  · have := hL g hx; omega
end Go.Proofs.YtapephelfijcbaaGreatDoor
