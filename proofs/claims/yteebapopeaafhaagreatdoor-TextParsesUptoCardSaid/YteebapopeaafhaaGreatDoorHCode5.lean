/-
  CONTRACTS: code.split, Name, Op, Operands, limits, Right. Conditions: none.
  CONTRACTS: Operands, limits, Right, names, Name, Op of code and taciturnref1. Conditions: none.
  CONTRACTS: names, Name, Op, within, Right of taciturnref1. Conditions: none.
  CONTRACTS: Right of taciturnref1. Conditions: none.
  CONTRACTS: Right of taciturnref1, all of it. Conditions: none.
-/
import Derived.Test.YteebapopeaafhaaGreatDoorHCodeP
import Derived.Test.YteebapopeaafhaaGreatDoorRows
import Derived.Laws.RangeAny
import Derived.Laws.Runes
namespace Go.Proofs.YteebapopeaafhaaGreatDoor
open Go.RowKit Go.Tcn
set_option linter.unusedVariables false
set_option linter.unusedSimpArgs false
theorem Name1_no (n op : Int) (word : ByteArray) (a b : Nat) (w : World) (h : (n == op) = false) (ha : w.cell? ⟨a, 0, none⟩ = some (.int .i64 op)) :
    Calls Tryz.prog 110 #[.int .i64 n, .string word, .pointer (some ⟨a, 0, none⟩), .pointer (some ⟨b, 0, none⟩)] w fun e w' => e = .returned (.bool false) ∧ w = w' := by
  go_enter Tryz.func110, Tryz.ntmps110
  go_wp2
  go_ret
  exact ⟨rfl, rfl⟩
theorem Name1_yes (n : Int) (word : ByteArray) (a b : Nat) (u : ByteArray) (w : World) (ha : w.cell? ⟨a, 0, none⟩ = some (.int .i64 n)) (hb : w.cell? ⟨b, 0, none⟩ = some (.string u)) (hf : w.frozen? ⟨b, 0, none⟩ = false) (hab : a ≠ b) :
    Calls Tryz.prog 110 #[.int .i64 n, .string word, .pointer (some ⟨a, 0, none⟩), .pointer (some ⟨b, 0, none⟩)] w fun e w' => e = .returned (.bool true) ∧ w' = w.setCell ⟨b, 0, none⟩ (.string word) := by
  go_enter Tryz.func110, Tryz.ntmps110
  go_wp2
  go_ret
  exact ⟨rfl, rfl⟩
theorem words_size : wordsL.length = 176 := by decide +kernel
theorem words_ascii : ∀ c ∈ wordsL, c.toNat < 128 := by decide +kernel
theorem enc_ascii (c : UInt8) (h : c.toNat < 128) : Utf8.encode (c.toNat : Int) = ⟨#[c]⟩ := by
  unfold Utf8.encode
  have hv : Utf8.valid (c.toNat : Int) = true := by rw [validRune_eq]; unfold validRune; simp; omega
  simp [hv, h]
theorem mk_snoc (l : List UInt8) (c : UInt8) : (ByteArray.mk l.toArray ++ ByteArray.mk #[c]) = ByteArray.mk (l ++ [c]).toArray := by
  have := ByteArray.mk_append_mk l [c]
  simpa using this
set_option maxRecDepth 100000 in
set_option maxHeartbeats 2000000 in
theorem code_split_Name (w : World) (c0 c1 : Value) (stop : Nat → List UInt8 → Bool) (Post : Nat → List UInt8 → World → Prop)
    (hno : ∀ (n : Nat) (word : List UInt8) (wx : World), stop n word = false → Tch [] w wx → Calls Tryz.prog 110 #[.int .i64 n, .string ⟨word.toArray⟩, c0, c1] wx fun e w' => e = .returned (.bool false) ∧ wx = w')
    (hyes : ∀ (n : Nat) (word : List UInt8) (wx : World), stop n word = true → Tch [] w wx → Calls Tryz.prog 110 #[.int .i64 n, .string ⟨word.toArray⟩, c0, c1] wx fun e w' => e = .returned (.bool true) ∧ Post n word w') :
    Calls Tryz.prog 109 #[.func (.func 110) #[] #[c0, c1]] w fun e w' => e = .returned (.tuple #[]) ∧ (findW stop wordsL 1 [] = none → Tch [] w w') ∧ (∀ n word, findW stop wordsL 1 [] = some (n, word) → Post n word w') := by
  go_enter Tryz.func109, Tryz.ntmps109
  go_wp2
  generalize hwi : World.iter w _ 0 = wi
  have hwi2 : wi = w.iter ⟨wordsL.toArray⟩ 0 := by rw [← hwi]; exact congrArg (fun l => w.iter ⟨l⟩ 0) (by decide +kernel)
  clear hwi
  obtain ⟨S, hSd⟩ : ∃ S : ByteArray, S = ⟨wordsL.toArray⟩ := ⟨_, rfl⟩
  rw [← hSd] at hwi2
  have hS1 : S.size = 176 := by rw [hSd]; simp [ByteArray.size, words_size]
  have hS2 : ∀ (k : Nat) (h : k < S.size) (h' : k < wordsL.length), S[k] = wordsL[k] := by subst hSd; intro k h h'; rfl
  clear hSd
  subst hwi2
  go_loopw [2, 3] (fun o v wr => ∃ (pos n : Nat) (word : List UInt8), wr = w.iter S pos ∧ pos ≤ 176 ∧ o = .int .i64 (n : Int) ∧ v = .string ⟨word.toArray⟩ ∧ n ≤ 1 + pos ∧ word.length ≤ pos ∧ Hid (findW stop (wordsL.drop pos) n word = findW stop wordsL 1 [])) (fun _ _ wr => 176 - wr.iterPos w.heap.size)
  case atStart => exact ⟨0, 1, [], rfl, by omega, rfl, rfl, by omega, by simp, Lib.hid (by simp)⟩
  case round =>
    obtain ⟨pos, n, word, rfl, hp, rfl, rfl, hn, hwl, HF⟩ := hrel
    have tw : Tch [] w (w.iter S pos) := (Tch.refl [] w).alloc _
    by_cases hlt : pos < 176
    · have hlS : pos < S.size := by omega
      have hlw : pos < wordsL.length := by rw [words_size]; exact hlt
      have ha := words_ascii _ (List.getElem_mem hlw)
      have hnx : ∀ ty, (Instr.next (.pointer (some ⟨w.heap.size, 0, none⟩)) true ty).run Tryz.prog (w.iter S pos) = .ok (.tuple #[.bool true, .int .i64 pos, .int .i32 ((wordsL[pos]).toNat : Int)]) (w.iter S (pos + 1)) := fun ty => by
        rw [run_next_ascii w S pos ty hlS (by rw [hS2 _ _ hlw]; exact ha), hS2 _ _ hlw]
      have hf := HF.out
      rw [List.drop_eq_getElem_cons hlw, findW] at hf
      have HS2 := Lib.hid hS2; clear hS2 HF
      have he := enc_ascii _ ha
      have HS1 := Lib.hid hS1; clear hS1
      generalize wordsL[pos] = c at *
      by_cases hc : c = 32
      · subst hc
        rw [if_pos rfl] at hf
        cases hst : stop n word
        · rw [hst, if_neg (by simp)] at hf
          have HF2 := Lib.hid hf; clear hf he ha
          have hn0 := Lib.hid (hno n word (w.iter S (pos + 1)) hst ((Tch.refl [] w).alloc _))
          have HST := Lib.hid hst; clear hst hyes hno
          have e32 : ((32 : UInt8).toNat : Int) = 32 := rfl
          rw [e32] at hnx
          go_wp2_with fail
          refine hn0.out.mono ?_
          rintro e w' ⟨rfl, rfl⟩
          go_wp2_with fail
          go_roundw
          case rel => exact ⟨pos + 1, n + 1, [], rfl, by omega, by go_num, rfl, by omega, by simp, HF2⟩
          case measure => simp; omega
        · rw [hst, if_pos rfl] at hf
          have HF2 := Lib.hid hf; clear hf he ha
          have hn0 := Lib.hid (hyes n word (w.iter S (pos + 1)) hst ((Tch.refl [] w).alloc _))
          have HST := Lib.hid hst; clear hst hyes hno
          have e32 : ((32 : UInt8).toNat : Int) = 32 := rfl
          rw [e32] at hnx
          go_wp2_with fail
          refine hn0.out.mono ?_
          rintro e w' ⟨rfl, hpost⟩
          have HP := Lib.hid hpost; clear hpost
          go_wp2_with fail
          refine bodyPost_ret (v := .tuple #[]) (results_none rfl _ _ _) rfl ?_
          refine ⟨rfl, fun hx => ?_, fun n' word' hx => ?_⟩
          · have h1 := HF2.out
            rw [hx] at h1; cases h1
          · have h1 := HF2.out
            rw [hx] at h1
            simp only [Option.some.injEq, Prod.mk.injEq] at h1
            obtain ⟨rfl, rfl⟩ := h1
            exact HP.out
      · rw [if_neg hc] at hf
        have HF2 := Lib.hid hf; clear hf
        have hc2 : ((c.toNat : Int) != 32) = true := by
          rw [bne_iff_ne]
          intro h
          apply hc
          apply UInt8.toNat_inj.1
          show c.toNat = 32
          omega
        have hcn := mk_snoc word c
        have hws : word.length < 1000 := by omega
        clear hc hno hyes ha
        go_wp2_with fail
        go_roundw
        case rel => exact ⟨pos + 1, n, word ++ [c], rfl, by omega, rfl, rfl, by omega, by simp; omega, HF2⟩
        case measure => simp; omega
    · have hnx : ∀ ty, (Instr.next (.pointer (some ⟨w.heap.size, 0, none⟩)) true ty).run Tryz.prog (w.iter S pos) = .ok (.tuple #[.bool false]) (w.iter S pos) := fun ty => run_next_end w S pos ty (by omega)
      have hf := HF.out
      rw [List.drop_eq_nil_of_le (by rw [words_size]; omega), findW] at hf
      have HF2 := Lib.hid hf; clear hf hno hyes
      go_wp2_with fail
      go_end0
      refine ⟨rfl, fun _ => tw, fun n' word' hx => ?_⟩
      have h1 := HF2.out
      rw [hx] at h1; cases h1
set_option maxRecDepth 100000 in
set_option maxHeartbeats 2000000 in
theorem code_split_Op (w : World) (c0 c1 : Value) (stop : Nat → List UInt8 → Bool) (Post : Nat → List UInt8 → World → Prop)
    (hno : ∀ (n : Nat) (word : List UInt8) (wx : World), stop n word = false → Tch [] w wx → Calls Tryz.prog 125 #[.int .i64 n, .string ⟨word.toArray⟩, c0, c1] wx fun e w' => e = .returned (.bool false) ∧ wx = w')
    (hyes : ∀ (n : Nat) (word : List UInt8) (wx : World), stop n word = true → Tch [] w wx → Calls Tryz.prog 125 #[.int .i64 n, .string ⟨word.toArray⟩, c0, c1] wx fun e w' => e = .returned (.bool true) ∧ Post n word w') :
    Calls Tryz.prog 109 #[.func (.func 125) #[] #[c0, c1]] w fun e w' => e = .returned (.tuple #[]) ∧ (findW stop wordsL 1 [] = none → Tch [] w w') ∧ (∀ n word, findW stop wordsL 1 [] = some (n, word) → Post n word w') := by
  go_enter Tryz.func109, Tryz.ntmps109
  go_wp2
  generalize hwi : World.iter w _ 0 = wi
  have hwi2 : wi = w.iter ⟨wordsL.toArray⟩ 0 := by rw [← hwi]; exact congrArg (fun l => w.iter ⟨l⟩ 0) (by decide +kernel)
  clear hwi
  obtain ⟨S, hSd⟩ : ∃ S : ByteArray, S = ⟨wordsL.toArray⟩ := ⟨_, rfl⟩
  rw [← hSd] at hwi2
  have hS1 : S.size = 176 := by rw [hSd]; simp [ByteArray.size, words_size]
  have hS2 : ∀ (k : Nat) (h : k < S.size) (h' : k < wordsL.length), S[k] = wordsL[k] := by subst hSd; intro k h h'; rfl
  clear hSd
  subst hwi2
  go_loopw [2, 3] (fun o v wr => ∃ (pos n : Nat) (word : List UInt8), wr = w.iter S pos ∧ pos ≤ 176 ∧ o = .int .i64 (n : Int) ∧ v = .string ⟨word.toArray⟩ ∧ n ≤ 1 + pos ∧ word.length ≤ pos ∧ Hid (findW stop (wordsL.drop pos) n word = findW stop wordsL 1 [])) (fun _ _ wr => 176 - wr.iterPos w.heap.size)
  case atStart => exact ⟨0, 1, [], rfl, by omega, rfl, rfl, by omega, by simp, Lib.hid (by simp)⟩
  case round =>
    obtain ⟨pos, n, word, rfl, hp, rfl, rfl, hn, hwl, HF⟩ := hrel
    have tw : Tch [] w (w.iter S pos) := (Tch.refl [] w).alloc _
    by_cases hlt : pos < 176
    · have hlS : pos < S.size := by omega
      have hlw : pos < wordsL.length := by rw [words_size]; exact hlt
      have ha := words_ascii _ (List.getElem_mem hlw)
      have hnx : ∀ ty, (Instr.next (.pointer (some ⟨w.heap.size, 0, none⟩)) true ty).run Tryz.prog (w.iter S pos) = .ok (.tuple #[.bool true, .int .i64 pos, .int .i32 ((wordsL[pos]).toNat : Int)]) (w.iter S (pos + 1)) := fun ty => by
        rw [run_next_ascii w S pos ty hlS (by rw [hS2 _ _ hlw]; exact ha), hS2 _ _ hlw]
      have hf := HF.out
      rw [List.drop_eq_getElem_cons hlw, findW] at hf
      have HS2 := Lib.hid hS2; clear hS2 HF
      have he := enc_ascii _ ha
      have HS1 := Lib.hid hS1; clear hS1
      generalize wordsL[pos] = c at *
      by_cases hc : c = 32
      · subst hc
        rw [if_pos rfl] at hf
        cases hst : stop n word
        · rw [hst, if_neg (by simp)] at hf
          have HF2 := Lib.hid hf; clear hf he ha
          have hn0 := Lib.hid (hno n word (w.iter S (pos + 1)) hst ((Tch.refl [] w).alloc _))
          have HST := Lib.hid hst; clear hst hyes hno
          have e32 : ((32 : UInt8).toNat : Int) = 32 := rfl
          rw [e32] at hnx
          go_wp2_with fail
          refine hn0.out.mono ?_
          rintro e w' ⟨rfl, rfl⟩
          go_wp2_with fail
          go_roundw
          case rel => exact ⟨pos + 1, n + 1, [], rfl, by omega, by go_num, rfl, by omega, by simp, HF2⟩
          case measure => simp; omega
        · rw [hst, if_pos rfl] at hf
          have HF2 := Lib.hid hf; clear hf he ha
          have hn0 := Lib.hid (hyes n word (w.iter S (pos + 1)) hst ((Tch.refl [] w).alloc _))
          have HST := Lib.hid hst; clear hst hyes hno
          have e32 : ((32 : UInt8).toNat : Int) = 32 := rfl
          rw [e32] at hnx
          go_wp2_with fail
          refine hn0.out.mono ?_
          rintro e w' ⟨rfl, hpost⟩
          have HP := Lib.hid hpost; clear hpost
          go_wp2_with fail
          refine bodyPost_ret (v := .tuple #[]) (results_none rfl _ _ _) rfl ?_
          refine ⟨rfl, fun hx => ?_, fun n' word' hx => ?_⟩
          · have h1 := HF2.out
            rw [hx] at h1; cases h1
          · have h1 := HF2.out
            rw [hx] at h1
            simp only [Option.some.injEq, Prod.mk.injEq] at h1
            obtain ⟨rfl, rfl⟩ := h1
            exact HP.out
      · rw [if_neg hc] at hf
        have HF2 := Lib.hid hf; clear hf
        have hc2 : ((c.toNat : Int) != 32) = true := by
          rw [bne_iff_ne]
          intro h
          apply hc
          apply UInt8.toNat_inj.1
          show c.toNat = 32
          omega
        have hcn := mk_snoc word c
        have hws : word.length < 1000 := by omega
        clear hc hno hyes ha
        go_wp2_with fail
        go_roundw
        case rel => exact ⟨pos + 1, n, word ++ [c], rfl, by omega, rfl, rfl, by omega, by simp; omega, HF2⟩
        case measure => simp; omega
    · have hnx : ∀ ty, (Instr.next (.pointer (some ⟨w.heap.size, 0, none⟩)) true ty).run Tryz.prog (w.iter S pos) = .ok (.tuple #[.bool false]) (w.iter S pos) := fun ty => run_next_end w S pos ty (by omega)
      have hf := HF.out
      rw [List.drop_eq_nil_of_le (by rw [words_size]; omega), findW] at hf
      have HF2 := Lib.hid hf; clear hf hno hyes
      go_wp2_with fail
      go_end0
      refine ⟨rfl, fun _ => tw, fun n' word' hx => ?_⟩
      have h1 := HF2.out
      rw [hx] at h1; cases h1

set_option maxRecDepth 100000 in
set_option maxHeartbeats 2000000 in
theorem code_Name (op : Int) (w : World) :
    Calls Tryz.prog 76 #[.int .i64 op] w fun e w' => e = .returned (.string ⟨(nmAt op).toArray⟩) ∧ Tch [] w w' := by
  go_enter Tryz.func76, Tryz.ntmps76
  go_wp2_with fail
  have hfw := findW_op op
  generalize hW : (w.alloc (Obj.cells #[Value.int IntKind.i64 op] 3)).alloc (Obj.cells #[Value.string (ByteArray.mk #[])] 9) = W
  have tW : Tch [] w W := by rw [← hW]; exact ((Tch.refl [] w).alloc _).alloc _
  have ca : W.cell? ⟨w.heap.size, 0, none⟩ = some (.int .i64 op) := by rw [← hW]; simp [go_sem, World.cell?_alloc_past]
  have cb : W.cell? ⟨w.heap.size + 1, 0, none⟩ = some (.string ⟨#[]⟩) := by rw [← hW]; simp [go_sem]
  have fb : W.frozen? ⟨w.heap.size + 1, 0, none⟩ = false := by rw [← hW]; simp [go_sem]
  have hsz : W.heap.size = w.heap.size + 2 := by rw [← hW]; simp
  clear hW
  refine (code_split_Name W (.pointer (some ⟨w.heap.size, 0, none⟩)) (.pointer (some ⟨w.heap.size + 1, 0, none⟩)) (fun k _ => decide ((k : Int) = op)) (fun k word w' => w'.cell? ⟨w.heap.size + 1, 0, none⟩ = some (.string ⟨word.toArray⟩) ∧ Tch [] w w') ?_ ?_).mono ?_
  · intro n word wx hst ht
    have h1 : (((n : Int)) == op) = false := by simpa using hst
    exact Name1_no _ op _ _ _ _ h1 (by rw [ht.cell (by show w.heap.size < _; omega) (by simp)]; exact ca)
  · intro n word wx hst ht
    have h1 : ((n : Int)) = op := by simpa using hst
    rw [h1]
    refine (Name1_yes op _ _ _ ⟨#[]⟩ wx (by rw [ht.cell (by show w.heap.size < _; omega) (by simp)]; exact ca) (by rw [ht.cell (by show w.heap.size + 1 < _; omega) (by simp)]; exact cb) (by rw [ht.frozen (by show w.heap.size + 1 < _; omega) (by simp)]; exact fb) (by omega)).mono ?_
    rintro e w' ⟨rfl, rfl⟩
    have cb' : wx.cell? ⟨w.heap.size + 1, 0, none⟩ = some (.string ⟨#[]⟩) := by rw [ht.cell (by show w.heap.size + 1 < _; omega) (by simp)]; exact cb
    exact ⟨rfl, by simp [cb', go_sem], (tW.then ht).setCell (.inr (by show w.heap.size ≤ w.heap.size + 1; omega)) _⟩
  · rintro e w' ⟨rfl, h1, h2⟩
    rw [hfw] at h1 h2
    by_cases hop : 1 ≤ op ∧ op ≤ 39
    · rw [if_pos hop] at h2
      obtain ⟨c1, t1⟩ := h2 _ _ rfl
      clear h1 h2 hfw ca cb fb
      go_wp2_with fail
      go_ret
      exact ⟨rfl, t1⟩
    · rw [if_neg hop] at h1
      have t1 := h1 rfl
      have c1 : w'.cell? ⟨w.heap.size + 1, 0, none⟩ = some (.string ⟨#[]⟩) := by rw [t1.cell (by show w.heap.size + 1 < _; omega) (by simp)]; exact cb
      have hn : nmAt op = [] := (nmAt_nil op).2 hop
      clear h1 h2 hfw ca cb fb
      have HN := Lib.hid hn; clear hn
      go_wp2_with fail
      go_ret
      exact ⟨by rw [HN.out]; rfl, tW.then t1⟩
theorem Op1_no (n : Int) (word s : ByteArray) (a b : Nat) (w : World) (h : (word.toList == s.toList) = false) (ha : w.cell? ⟨a, 0, none⟩ = some (.string s)) :
    Calls Tryz.prog 125 #[.int .i64 n, .string word, .pointer (some ⟨a, 0, none⟩), .pointer (some ⟨b, 0, none⟩)] w fun e w' => e = .returned (.bool false) ∧ w = w' := by
  go_enter Tryz.func125, Tryz.ntmps125
  go_wp2
  go_ret
  exact ⟨rfl, rfl⟩
theorem Op1_yes (n : Int) (word : ByteArray) (a b : Nat) (u : Int) (w : World) (ha : w.cell? ⟨a, 0, none⟩ = some (.string word)) (hb : w.cell? ⟨b, 0, none⟩ = some (.int .i64 u)) (hf : w.frozen? ⟨b, 0, none⟩ = false) (hab : a ≠ b) :
    Calls Tryz.prog 125 #[.int .i64 n, .string word, .pointer (some ⟨a, 0, none⟩), .pointer (some ⟨b, 0, none⟩)] w fun e w' => e = .returned (.bool true) ∧ w' = w.setCell ⟨b, 0, none⟩ (.int .i64 n) := by
  go_enter Tryz.func125, Tryz.ntmps125
  go_wp2
  go_ret
  exact ⟨rfl, rfl⟩
theorem tol (l : List UInt8) : (ByteArray.mk l.toArray).toList = l := by rw [Go.ByteArray.toList_eq]
set_option maxRecDepth 100000 in
set_option maxHeartbeats 2000000 in
theorem code_Op (s : List UInt8) (w : World) :
    Calls Tryz.prog 105 #[.string ⟨s.toArray⟩] w fun e w' => e = .returned (.int .i64 (opAt s)) ∧ Tch [] w w' := by
  go_enter Tryz.func105, Tryz.ntmps105
  go_wp2_with fail
  have hfw := findW_name s
  generalize hW : (w.alloc (Obj.cells #[Value.string (ByteArray.mk s.toArray)] 9)).alloc (Obj.cells #[Value.int IntKind.i64 0] 3) = W
  have tW : Tch [] w W := by rw [← hW]; exact ((Tch.refl [] w).alloc _).alloc _
  have ca : W.cell? ⟨w.heap.size, 0, none⟩ = some (.string ⟨s.toArray⟩) := by rw [← hW]; simp [go_sem, World.cell?_alloc_past]
  have cb : W.cell? ⟨w.heap.size + 1, 0, none⟩ = some (.int .i64 0) := by rw [← hW]; simp [go_sem]
  have fb : W.frozen? ⟨w.heap.size + 1, 0, none⟩ = false := by rw [← hW]; simp [go_sem]
  have hsz : W.heap.size = w.heap.size + 2 := by rw [← hW]; simp
  clear hW
  refine (code_split_Op W (.pointer (some ⟨w.heap.size, 0, none⟩)) (.pointer (some ⟨w.heap.size + 1, 0, none⟩)) (fun _ v => v == s) (fun k word w' => w'.cell? ⟨w.heap.size + 1, 0, none⟩ = some (.int .i64 k) ∧ Tch [] w w') ?_ ?_).mono ?_
  · intro n word wx hst ht
    exact Op1_no _ _ ⟨s.toArray⟩ _ _ _ (by rw [tol, tol]; exact hst) (by rw [ht.cell (by show w.heap.size < _; omega) (by simp)]; exact ca)
  · intro n word wx hst ht
    obtain rfl : word = s := by simpa using hst
    refine (Op1_yes n _ _ _ 0 wx (by rw [ht.cell (by show w.heap.size < _; omega) (by simp)]; exact ca) (by rw [ht.cell (by show w.heap.size + 1 < _; omega) (by simp)]; exact cb) (by rw [ht.frozen (by show w.heap.size + 1 < _; omega) (by simp)]; exact fb) (by omega)).mono ?_
    rintro e w' ⟨rfl, rfl⟩
    have cb' : wx.cell? ⟨w.heap.size + 1, 0, none⟩ = some (.int .i64 0) := by rw [ht.cell (by show w.heap.size + 1 < _; omega) (by simp)]; exact cb
    exact ⟨rfl, by simp [cb', go_sem], (tW.then ht).setCell (.inr (by show w.heap.size ≤ w.heap.size + 1; omega)) _⟩
  · rintro e w' ⟨rfl, h1, h2⟩
    rw [hfw] at h1 h2
    have ho : opAt s = match firstW (fun _ w => w == s) nmTab 1 with | some (n, _) => (n : Int) | none => 0 := rfl
    cases hf : firstW (fun _ w => w == s) nmTab 1 with
    | some q =>
      obtain ⟨n, word⟩ := q
      rw [hf] at ho
      obtain ⟨c1, t1⟩ := h2 _ _ hf
      clear h1 h2 hfw ca cb fb hf
      have HO := Lib.hid ho; clear ho
      go_wp2_with fail
      go_ret
      exact ⟨by rw [HO.out]; rfl, t1⟩
    | none =>
      rw [hf] at ho
      have t1 := h1 hf
      have c1 : w'.cell? ⟨w.heap.size + 1, 0, none⟩ = some (.int .i64 0) := by rw [t1.cell (by show w.heap.size + 1 < _; omega) (by simp)]; exact cb
      clear h1 h2 hfw ca cb fb hf
      have HO := Lib.hid ho; clear ho
      go_wp2_with fail
      go_ret
      exact ⟨by rw [HO.out]; rfl, tW.then t1⟩
end Go.Proofs.YteebapopeaafhaaGreatDoor
namespace Go.Proofs.YteebapopeaafhaaGreatDoor
open Go.RowKit Go.Tcn
set_option linter.unusedVariables false
set_option linter.unusedSimpArgs false

set_option maxHeartbeats 2000000 in
theorem code_Operands (op : Int) (w : World) : Calls Tryz.prog 77 #[.int .i64 op] w fun e w' => e = .returned (.int .i64 (opndN op)) ∧ w = w' := by
  go_enter Tryz.func77, Tryz.ntmps77
  go_wp2
  all_goals
    go_ret
    refine ⟨?_, rfl⟩
    simp only [beq_iff_eq, beq_eq_false_iff_ne, ne_eq] at *
    simp_all [opndN]

set_option maxHeartbeats 2000000 in
theorem ref_Operands (op : Int) (w : World) : Calls Tryz.prog 26 #[.int .i64 op] w fun e w' => e = .returned (.int .i64 (opndN op)) ∧ w = w' := by
  go_enter Tryz.func26, Tryz.ntmps26
  go_wp2
  all_goals
    go_ret
    refine ⟨?_, rfl⟩
    simp only [beq_iff_eq, beq_eq_false_iff_ne, ne_eq] at *
    simp_all [opndN]

set_option maxHeartbeats 2000000 in
theorem code_limits (op : Int) (w : World) : Calls Tryz.prog 117 #[.int .i64 op] w fun e w' => e = .returned (.tuple #[.int .i64 (limLo op), .int .i64 (limHi op)]) ∧ w = w' := by
  go_enter Tryz.func117, Tryz.ntmps117
  go_wp2
  all_goals
    go_ret2
    refine ⟨?_, rfl⟩
    simp only [beq_iff_eq, beq_eq_false_iff_ne, ne_eq] at *
    simp_all [limLo, limHi]
theorem andNot4 (b : Int) (h0 : 0 ≤ b) (h1 : b ≤ 9223372036854775807) : bits .andNot .i64 b 4 ≤ 2 ↔ (b ≤ 2 ∨ 4 ≤ b ∧ b ≤ 6) := by
  obtain ⟨n, rfl⟩ := Int.eq_ofNat_of_zero_le h0
  have hn : n < 9223372036854775808 := by omega
  have e : bits .andNot .i64 (n : Int) 4 = ((n &&& 18446744073709551611 : Nat) : Int) := by
    have hx : n &&& 18446744073709551611 ≤ n := Nat.and_le_left
    show IntKind.i64.wrap ((BitVec.ofInt 64 (n : Int) &&& ~~~BitVec.ofInt 64 (4 : Int)).toNat : Int) = _
    have e1 : (BitVec.ofInt 64 (n : Int)).toNat = n := by rw [BitVec.ofInt_natCast, BitVec.toNat_ofNat]; exact Nat.mod_eq_of_lt (by omega)
    have e2 : (~~~BitVec.ofInt 64 (4 : Int)).toNat = 18446744073709551611 := by decide
    rw [BitVec.toNat_and, e1, e2]
    exact IntWalk.i64_in _ (by omega)
  rw [e]
  by_cases h8 : n < 8
  · have h : n = 0 ∨ n = 1 ∨ n = 2 ∨ n = 3 ∨ n = 4 ∨ n = 5 ∨ n = 6 ∨ n = 7 := by omega
    rcases h with rfl | rfl | rfl | rfl | rfl | rfl | rfl | rfl <;> decide
  · have hs : (n &&& 18446744073709551611) / 8 = n / 8 := by
      have h3 := Nat.shiftRight_and_distrib (a := n) (b := 18446744073709551611) (i := 3)
      rw [Nat.shiftRight_eq_div_pow, Nat.shiftRight_eq_div_pow, Nat.shiftRight_eq_div_pow] at h3
      have e4 : (18446744073709551611 : Nat) / 2 ^ 3 = 2 ^ 61 - 1 := by decide
      rw [e4, Nat.and_two_pow_sub_one_eq_mod] at h3
      have e5 : (2 : Nat) ^ 3 = 8 := rfl
      rw [e5] at h3
      rw [h3]
      exact Nat.mod_eq_of_lt (by omega)
    constructor
    · intro h; omega
    · intro h; omega
set_option maxRecDepth 100000 in
set_option maxHeartbeats 4000000 in
theorem code_Right (op a b : Int) (w : World) (hb : -9223372036854775808 ≤ b ∧ b ≤ 9223372036854775807) : Calls Tryz.prog 89 #[.agg #[.int .i64 op, .int .i64 a, .int .i64 b]] w fun e w' => e = .returned (.bool (rightI op a b)) ∧ Tch [] w w' := by
  have hr : rightI op a b = decide (1 ≤ op ∧ op ≤ 39 ∧ limLo op ≤ a ∧ a ≤ limHi op ∧ (if op = 27 then (0 ≤ b ∧ b ≤ 2 ∨ 4 ≤ b ∧ b ≤ 6) else b = 0)) := rfl
  generalize rightI op a b = R at *
  have HR := Lib.hid hr; clear hr
  have hl := fun w => code_limits op w
  generalize limLo op = lo at *
  generalize limHi op = hi at *
  have tw : Tch [] w (w.alloc (.cells #[.int .i64 op, .int .i64 a, .int .i64 b] 57)) := (Tch.refl [] w).alloc _
  have hrc : (op < 1 ∧ R = false) ∨ (1 ≤ op ∧ 39 < op ∧ R = false) ∨ (1 ≤ op ∧ op ≤ 39 ∧ a < lo ∧ R = false) ∨ (1 ≤ op ∧ op ≤ 39 ∧ lo ≤ a ∧ hi < a ∧ R = false) ∨ (1 ≤ op ∧ op ≤ 39 ∧ lo ≤ a ∧ a ≤ hi ∧ op = 27 ∧ b < 0 ∧ R = false) ∨ (1 ≤ op ∧ op ≤ 39 ∧ lo ≤ a ∧ a ≤ hi ∧ op = 27 ∧ 0 ≤ b ∧ R = decide (bits .andNot .i64 b 4 ≤ 2)) ∨ (1 ≤ op ∧ op ≤ 39 ∧ lo ≤ a ∧ a ≤ hi ∧ op ≠ 27 ∧ R = (b == 0)) := by
    have h := HR.out
    by_cases h1 : 1 ≤ op
    · by_cases h2 : op ≤ 39
      · by_cases h3 : lo ≤ a
        · by_cases h4 : a ≤ hi
          · by_cases h5 : op = 27
            · by_cases h6 : 0 ≤ b
              · have h7 := andNot4 b h6 hb.2
                refine .inr (.inr (.inr (.inr (.inr (.inl ⟨h1, h2, h3, h4, h5, h6, ?_⟩)))))
                rw [h]
                simp only [h1, h2, h3, h4, h5, h6, if_true, true_and, h7]
                simp
              · refine .inr (.inr (.inr (.inr (.inl ⟨h1, h2, h3, h4, h5, by omega, ?_⟩))))
                rw [h]
                simp [h5]
                omega
            · refine .inr (.inr (.inr (.inr (.inr (.inr ⟨h1, h2, h3, h4, h5, ?_⟩)))))
              rw [h]
              simp only [h1, h2, h3, h4, h5, if_false, true_and]
              rfl
          · refine .inr (.inr (.inr (.inl ⟨h1, h2, h3, by omega, by rw [h]; simp; omega⟩)))
        · refine .inr (.inr (.inl ⟨h1, h2, by omega, by rw [h]; simp; omega⟩))
      · refine .inr (.inl ⟨h1, by omega, by rw [h]; simp; omega⟩)
    · refine .inl ⟨by omega, by rw [h]; simp; omega⟩
  clear HR
  rcases hrc with ⟨h1, rfl⟩ | ⟨h1, h2, rfl⟩ | ⟨h1, h2, h3, rfl⟩ | ⟨h1, h2, h3, h4, rfl⟩ | ⟨h1, h2, h3, h4, h5, h6, rfl⟩ | ⟨h1, h2, h3, h4, h5, h6, hR⟩ | ⟨h1, h2, h3, h4, h5, hR⟩
  all_goals
    first | (have HR := Lib.hid hR; clear hR) | skip
    first | (have h5b := beq_iff_eq.2 h5; clear h5) | (have h5b := beq_eq_false_iff_ne.2 h5; clear h5) | skip
    go_enter Tryz.func89, Tryz.ntmps89
    go_wp2_with (go_at_call 117; refine (hl _).mono ?_; rintro e w' ⟨rfl, rfl⟩)
    go_ret
    refine ⟨?_, tw⟩
    first | rfl | (rw [HR.out]; rfl)
end Go.Proofs.YteebapopeaafhaaGreatDoor
namespace Go.Proofs.YteebapopeaafhaaGreatDoor
open Go.RowKit Go.Tcn
set_option linter.unusedVariables false
set_option linter.unusedSimpArgs false
theorem addr0 (b k : Nat) : (⟨b, 0, none⟩ : Addr).add k = ⟨b, k, none⟩ := by
  unfold Addr.add
  split
  · rename_i h; rw [h]
  · simp
def nmVals : List Value := ([] :: nmTab).map fun l => Value.string ⟨l.toArray⟩
theorem nmVals_length : nmVals.length = 40 := rfl
set_option maxRecDepth 100000 in
theorem ref_names (w : World) : Calls Tryz.prog 57 #[] w fun e w' => e = .returned (.slice (some ⟨w.heap.size, 0, none⟩) 40 40) ∧ Src w' [] (.slice (some ⟨w.heap.size, 0, none⟩) 40 40) 40 nmVals ∧ Tch [] w w' := by
  go_enter Tryz.func57, Tryz.ntmps57
  go_wp2
  go_ret
  exact ⟨rfl, src_new w _ [] _ 9 40 40 (Tch.refl [] _) (by simp), (Tch.refl [] w).alloc _⟩
theorem nmVals_at (k : Nat) (h1 : 1 ≤ k) (h2 : k ≤ 39) : nmVals[k]'(by rw [nmVals_length]; omega) = .string ⟨(nmTab[k - 1]'(by show _ < 39; omega)).toArray⟩ := by
  obtain ⟨j, rfl⟩ : ∃ j, k = j + 1 := ⟨k - 1, by omega⟩
  simp [nmVals]
theorem nmAt_at (k : Nat) (h1 : 1 ≤ k) (h2 : k ≤ 39) : nmAt (k : Int) = nmTab[k - 1]'(by show _ < 39; omega) := by
  unfold nmAt
  rw [if_pos (by omega)]
  have hl : k - 1 < nmTab.length := by show _ < 39; omega
  simp [List.getD, hl]
set_option maxRecDepth 100000 in
set_option maxHeartbeats 2000000 in
theorem ref_Name (op : Int) (w : World) : Calls Tryz.prog 25 #[.int .i64 op] w fun e w' => e = .returned (.string ⟨(nmAt op).toArray⟩) ∧ Tch [] w w' := by
  by_cases h1 : 1 ≤ op
  · obtain ⟨k, rfl⟩ := Int.eq_ofNat_of_zero_le (show 0 ≤ op by omega)
    have h1b : decide ((k : Int) < 1) = false := by simp; omega
    by_cases h2 : k ≤ 39
    · have hn := nmAt_at k (by omega) h2
      rw [← hn.symm] at hn
      have hv := nmVals_at k (by omega) h2
      rw [← nmAt_at k (by omega) h2] at hv
      have h2b : decide ((40 : Int) ≤ (k : Int)) = false := by simp; omega
      go_enter Tryz.func25, Tryz.ntmps25
      go_wp2_with fail
      refine (ref_names _).mono ?_
      rintro e w1 ⟨rfl, hs, t1⟩
      obtain ⟨ad, e1, _, _, hc⟩ := hs.at (j := k) (by rw [nmVals_length]; omega)
      simp only [Option.some.injEq] at e1
      subst e1
      rw [hv] at hc
      have hc2 : w1.cell? ⟨w.heap.size, k, none⟩ = some (.string ⟨(nmAt k).toArray⟩) := by
        rw [addr0] at hc; exact hc
      clear hc hs hv
      have hkl : (k : Int) < 40 := by omega
      obtain ⟨nm, hnm⟩ : ∃ nm, nm = nmAt (k : Int) := ⟨_, rfl⟩
      rw [← hnm] at hc2
      have HN := Lib.hid hnm; clear hnm
      go_wp2_with fail
      go_ret
      exact ⟨by rw [← HN.out]; rfl, t1⟩
    · have hn : nmAt (k : Int) = [] := (nmAt_nil _).2 (by omega)
      have HN := Lib.hid hn; clear hn
      have h2b : decide ((40 : Int) ≤ (k : Int)) = true := by simp; omega
      go_enter Tryz.func25, Tryz.ntmps25
      go_wp2_with fail
      refine (ref_names _).mono ?_
      rintro e w1 ⟨rfl, hs, t1⟩
      clear hs
      go_wp2_with fail
      go_ret
      exact ⟨by rw [HN.out]; rfl, t1⟩
  · have hn : nmAt op = [] := (nmAt_nil _).2 (by omega)
    have HN := Lib.hid hn; clear hn
    have h1b : op < 1 := by omega
    go_enter Tryz.func25, Tryz.ntmps25
    go_wp2_with fail
    refine (ref_names _).mono ?_
    rintro e w1 ⟨rfl, hs, t1⟩
    clear hs
    go_wp2_with fail
    go_ret
    exact ⟨by rw [HN.out]; rfl, t1⟩
theorem opAt_def (s : List UInt8) : opAt s = match firstW (fun _ w => w == s) nmTab 1 with | some (n, _) => (n : Int) | none => 0 := rfl
set_option maxRecDepth 100000 in
set_option maxHeartbeats 2000000 in
theorem ref_Op (s : List UInt8) (w : World) : Calls Tryz.prog 69 #[.string ⟨s.toArray⟩] w fun e w' => e = .returned (.int .i64 (opAt s)) ∧ Tch [] w w' := by
  go_enter Tryz.func69, Tryz.ntmps69
  go_wp2_with fail
  refine (ref_names _).mono ?_
  rintro e w1 ⟨rfl, hs, t1⟩
  go_wp2_with fail
  go_loop [4] (fun i => ∃ k : Nat, 1 ≤ k ∧ k ≤ 40 ∧ i = .int .i64 k ∧ Hid (firstW (fun _ w => w == s) (nmTab.drop (k - 1)) k = firstW (fun _ w => w == s) nmTab 1)) (fun i => (40 - intOf i).toNat)
  case atStart => exact ⟨1, by omega, by omega, rfl, Lib.hid rfl⟩
  case round =>
    obtain ⟨k, hk1, hk2, rfl, HF⟩ := hrel
    by_cases hlt : k < 40
    · have hv := nmVals_at k hk1 (by omega)
      obtain ⟨ad, e1, _, _, hc⟩ := hs.at (j := k) (by rw [nmVals_length]; omega)
      simp only [Option.some.injEq] at e1
      subst e1
      rw [hv] at hc
      have hl : k - 1 < nmTab.length := by show _ < 39; omega
      have hf := HF.out
      rw [List.drop_eq_getElem_cons hl, firstW] at hf
      rw [show k - 1 + 1 = k + 1 - 1 by omega] at hf
      have hc2 : w1.cell? ⟨w.heap.size, k, none⟩ = some (.string ⟨(nmTab[k - 1]).toArray⟩) := by
        rw [addr0] at hc; exact hc
      clear hc hs hv HF
      generalize nmTab[k - 1] = nm at *
      have hkl : k < 40 := hlt
      cases he : (nm == s)
      · rw [he, if_neg (by simp)] at hf
        have HF2 := Lib.hid hf; clear hf
        go_wp2_with fail
        go_round
        case rel => exact ⟨k + 1, by omega, by omega, by go_num, HF2⟩
        case measure => simp [intOf]; omega
      · rw [he, if_pos rfl] at hf
        have ho : opAt s = (k : Int) := by rw [opAt_def, ← hf]
        have HO := Lib.hid ho; clear ho hf
        go_wp2_with fail
        go_ret
        exact ⟨by rw [HO.out]; rfl, t1⟩
    · have hf := HF.out
      rw [List.drop_eq_nil_of_le (by show 39 ≤ _; omega), firstW] at hf
      have ho : opAt s = 0 := by rw [opAt_def, ← hf]
      have HO := Lib.hid ho; clear ho hf HF hs
      go_wp2_with fail
      go_ret
      exact ⟨by rw [HO.out]; rfl, t1⟩
theorem ref_within (n lo hi : Int) (w : World) : Calls Tryz.prog 92 #[.int .i64 n, .int .i64 lo, .int .i64 hi] w fun e w' => e = .returned (.bool (decide (lo ≤ n ∧ n ≤ hi))) ∧ w = w' := by
  by_cases h1 : lo ≤ n
  · by_cases h2 : n ≤ hi
    · go_enter Tryz.func92, Tryz.ntmps92
      go_wp2
      go_ret
      exact ⟨by simp [h1, h2], rfl⟩
    · go_enter Tryz.func92, Tryz.ntmps92
      go_wp2
      go_ret
      exact ⟨by simp [h1, h2], rfl⟩
  · have h1' : n < lo := by omega
    go_enter Tryz.func92, Tryz.ntmps92
    go_wp2
    go_ret
    exact ⟨by simp; omega, rfl⟩
end Go.Proofs.YteebapopeaafhaaGreatDoor
namespace Go.Proofs.YteebapopeaafhaaGreatDoor
open Go.RowKit Go.Tcn
set_option linter.unusedVariables false
set_option linter.unusedSimpArgs false
theorem ref_Name_some (op : Int) (h : 1 ≤ op ∧ op ≤ 39) (w : World) : ∃ c l, Calls Tryz.prog 25 #[.int .i64 op] w fun e w' => e = .returned (.string ⟨(c :: l).toArray⟩) ∧ Tch [] w w' := by
  have hn : nmAt op ≠ [] := fun e => (nmAt_nil op).1 e h
  obtain ⟨c, l, e⟩ := List.exists_cons_of_ne_nil hn
  refine ⟨c, l, ?_⟩
  rw [← e]
  exact ref_Name op w
theorem ref_Name_none (op : Int) (h : ¬ (1 ≤ op ∧ op ≤ 39)) (w : World) : Calls Tryz.prog 25 #[.int .i64 op] w fun e w' => e = .returned (.string ⟨#[]⟩) ∧ Tch [] w w' := by
  have := ref_Name op w
  rw [(nmAt_nil op).2 h] at this
  exact this
/-- Reads what was laid in a new block. -/
theorem tch_cell {w w' : World} {p : Addr} {v : Value} (t : Tch [] w w') (h : w.cell? p = some v) : w'.cell? p = some v := by rw [t.cell (cell_lt h) (by simp)]; exact h

set_option maxRecDepth 100000 in
set_option maxHeartbeats 2000000 in
theorem ref_Right_1 (a b : Int) (w : World) : Calls Tryz.prog 55 #[.agg #[.int .i64 1, .int .i64 a, .int .i64 b]] w fun e w' => e = .returned (.bool (rightI 1 a b)) ∧ Tch [] w w' := by
  obtain ⟨W, hW⟩ : ∃ W, W = w.alloc (.cells #[.int .i64 1, .int .i64 a, .int .i64 b] 57) := ⟨_, rfl⟩
  have tw : Tch [] w W := by rw [hW]; exact (Tch.refl [] w).alloc _
  have c0 : W.cell? ⟨w.heap.size, 0, none⟩ = some (.int .i64 1) := by rw [hW]; simp [go_sem]
  have c1 : W.cell? ⟨w.heap.size, 1, none⟩ = some (.int .i64 a) := by rw [hW]; simp [go_sem]
  have c2 : W.cell? ⟨w.heap.size, 2, none⟩ = some (.int .i64 b) := by rw [hW]; simp [go_sem]
  obtain ⟨c, l, hN⟩ := ref_Name_some 1 (by omega) W
  have hR : rightI 1 a b = (decide ((-2147483648) ≤ a ∧ a ≤ 2147483647) && b == 0) := by unfold rightI limLo limHi; rw [Bool.eq_iff_iff]; simp; omega
  have HR := Lib.hid hR; clear hR
  have hop := fun w => ref_Operands 1 w
  have e1 : opndN 1 = 1 := by decide
  rw [e1] at hop
  cases hb : (b == 0)
  · have hb2 : (b != 0) = true := by rw [bne, hb]; rfl
    have HB := Lib.hid hb; clear hb
    go_enter Tryz.func55, Tryz.ntmps55
    go_wp2_with fail
    rw [← hW]
    refine hN.mono ?_
    rintro e w1 ⟨rfl, t1⟩
    have d0 := tch_cell t1 c0
    have d1 := tch_cell t1 c1
    have d2 := tch_cell t1 c2
    have t2 := tw.then t1
    clear hN c0 c1 c2 hW
    go_wp2_with fail
    go_ret
    exact ⟨by rw [HR.out, HB.out, Bool.and_false]; rfl, t2⟩
  · obtain rfl : b = 0 := by simpa using hb
    clear hb
    have hw := fun w => ref_within a (-2147483648) 2147483647 w
    go_enter Tryz.func55, Tryz.ntmps55
    go_wp2_with fail
    rw [← hW]
    refine hN.mono ?_
    rintro e w1 ⟨rfl, t1⟩
    have d0 := tch_cell t1 c0
    have d1 := tch_cell t1 c1
    have d2 := tch_cell t1 c2
    have t2 := tw.then t1
    clear hN c0 c1 c2 hW
    go_wp2_with fail
    refine (hop _).mono ?_
    rintro e w' ⟨rfl, rfl⟩
    go_wp2_with fail
    refine (hw _).mono ?_
    rintro e w' ⟨rfl, rfl⟩
    go_wp2_with fail
    go_ret
    exact ⟨by rw [HR.out]; simp, t2⟩

set_option maxRecDepth 100000 in
set_option maxHeartbeats 2000000 in
theorem ref_Right_2 (a b : Int) (w : World) : Calls Tryz.prog 55 #[.agg #[.int .i64 2, .int .i64 a, .int .i64 b]] w fun e w' => e = .returned (.bool (rightI 2 a b)) ∧ Tch [] w w' := by
  obtain ⟨W, hW⟩ : ∃ W, W = w.alloc (.cells #[.int .i64 2, .int .i64 a, .int .i64 b] 57) := ⟨_, rfl⟩
  have tw : Tch [] w W := by rw [hW]; exact (Tch.refl [] w).alloc _
  have c0 : W.cell? ⟨w.heap.size, 0, none⟩ = some (.int .i64 2) := by rw [hW]; simp [go_sem]
  have c1 : W.cell? ⟨w.heap.size, 1, none⟩ = some (.int .i64 a) := by rw [hW]; simp [go_sem]
  have c2 : W.cell? ⟨w.heap.size, 2, none⟩ = some (.int .i64 b) := by rw [hW]; simp [go_sem]
  obtain ⟨c, l, hN⟩ := ref_Name_some 2 (by omega) W
  have hR : rightI 2 a b = (decide (0 ≤ a ∧ a ≤ 9) && b == 0) := by unfold rightI limLo limHi; rw [Bool.eq_iff_iff]; simp; omega
  have HR := Lib.hid hR; clear hR
  have hop := fun w => ref_Operands 2 w
  have e1 : opndN 2 = 1 := by decide
  rw [e1] at hop
  cases hb : (b == 0)
  · have hb2 : (b != 0) = true := by rw [bne, hb]; rfl
    have HB := Lib.hid hb; clear hb
    go_enter Tryz.func55, Tryz.ntmps55
    go_wp2_with fail
    rw [← hW]
    refine hN.mono ?_
    rintro e w1 ⟨rfl, t1⟩
    have d0 := tch_cell t1 c0
    have d1 := tch_cell t1 c1
    have d2 := tch_cell t1 c2
    have t2 := tw.then t1
    clear hN c0 c1 c2 hW
    go_wp2_with fail
    go_ret
    exact ⟨by rw [HR.out, HB.out, Bool.and_false]; rfl, t2⟩
  · obtain rfl : b = 0 := by simpa using hb
    clear hb
    have hw := fun w => ref_within a 0 9 w
    go_enter Tryz.func55, Tryz.ntmps55
    go_wp2_with fail
    rw [← hW]
    refine hN.mono ?_
    rintro e w1 ⟨rfl, t1⟩
    have d0 := tch_cell t1 c0
    have d1 := tch_cell t1 c1
    have d2 := tch_cell t1 c2
    have t2 := tw.then t1
    clear hN c0 c1 c2 hW
    go_wp2_with fail
    refine (hop _).mono ?_
    rintro e w' ⟨rfl, rfl⟩
    go_wp2_with fail
    refine (hw _).mono ?_
    rintro e w' ⟨rfl, rfl⟩
    go_wp2_with fail
    go_ret
    exact ⟨by rw [HR.out]; simp, t2⟩

set_option maxRecDepth 100000 in
set_option maxHeartbeats 2000000 in
theorem ref_Right_3 (a b : Int) (w : World) : Calls Tryz.prog 55 #[.agg #[.int .i64 3, .int .i64 a, .int .i64 b]] w fun e w' => e = .returned (.bool (rightI 3 a b)) ∧ Tch [] w w' := by
  obtain ⟨W, hW⟩ : ∃ W, W = w.alloc (.cells #[.int .i64 3, .int .i64 a, .int .i64 b] 57) := ⟨_, rfl⟩
  have tw : Tch [] w W := by rw [hW]; exact (Tch.refl [] w).alloc _
  have c0 : W.cell? ⟨w.heap.size, 0, none⟩ = some (.int .i64 3) := by rw [hW]; simp [go_sem]
  have c1 : W.cell? ⟨w.heap.size, 1, none⟩ = some (.int .i64 a) := by rw [hW]; simp [go_sem]
  have c2 : W.cell? ⟨w.heap.size, 2, none⟩ = some (.int .i64 b) := by rw [hW]; simp [go_sem]
  obtain ⟨c, l, hN⟩ := ref_Name_some 3 (by omega) W
  have hR : rightI 3 a b = (decide (0 ≤ a ∧ a ≤ 9) && b == 0) := by unfold rightI limLo limHi; rw [Bool.eq_iff_iff]; simp; omega
  have HR := Lib.hid hR; clear hR
  have hop := fun w => ref_Operands 3 w
  have e1 : opndN 3 = 1 := by decide
  rw [e1] at hop
  cases hb : (b == 0)
  · have hb2 : (b != 0) = true := by rw [bne, hb]; rfl
    have HB := Lib.hid hb; clear hb
    go_enter Tryz.func55, Tryz.ntmps55
    go_wp2_with fail
    rw [← hW]
    refine hN.mono ?_
    rintro e w1 ⟨rfl, t1⟩
    have d0 := tch_cell t1 c0
    have d1 := tch_cell t1 c1
    have d2 := tch_cell t1 c2
    have t2 := tw.then t1
    clear hN c0 c1 c2 hW
    go_wp2_with fail
    go_ret
    exact ⟨by rw [HR.out, HB.out, Bool.and_false]; rfl, t2⟩
  · obtain rfl : b = 0 := by simpa using hb
    clear hb
    have hw := fun w => ref_within a 0 9 w
    go_enter Tryz.func55, Tryz.ntmps55
    go_wp2_with fail
    rw [← hW]
    refine hN.mono ?_
    rintro e w1 ⟨rfl, t1⟩
    have d0 := tch_cell t1 c0
    have d1 := tch_cell t1 c1
    have d2 := tch_cell t1 c2
    have t2 := tw.then t1
    clear hN c0 c1 c2 hW
    go_wp2_with fail
    refine (hop _).mono ?_
    rintro e w' ⟨rfl, rfl⟩
    go_wp2_with fail
    refine (hw _).mono ?_
    rintro e w' ⟨rfl, rfl⟩
    go_wp2_with fail
    go_ret
    exact ⟨by rw [HR.out]; simp, t2⟩

set_option maxRecDepth 100000 in
set_option maxHeartbeats 2000000 in
theorem ref_Right_23 (a b : Int) (w : World) : Calls Tryz.prog 55 #[.agg #[.int .i64 23, .int .i64 a, .int .i64 b]] w fun e w' => e = .returned (.bool (rightI 23 a b)) ∧ Tch [] w w' := by
  obtain ⟨W, hW⟩ : ∃ W, W = w.alloc (.cells #[.int .i64 23, .int .i64 a, .int .i64 b] 57) := ⟨_, rfl⟩
  have tw : Tch [] w W := by rw [hW]; exact (Tch.refl [] w).alloc _
  have c0 : W.cell? ⟨w.heap.size, 0, none⟩ = some (.int .i64 23) := by rw [hW]; simp [go_sem]
  have c1 : W.cell? ⟨w.heap.size, 1, none⟩ = some (.int .i64 a) := by rw [hW]; simp [go_sem]
  have c2 : W.cell? ⟨w.heap.size, 2, none⟩ = some (.int .i64 b) := by rw [hW]; simp [go_sem]
  obtain ⟨c, l, hN⟩ := ref_Name_some 23 (by omega) W
  have hR : rightI 23 a b = (decide (0 ≤ a ∧ a ≤ 119) && b == 0) := by unfold rightI limLo limHi; rw [Bool.eq_iff_iff]; simp; omega
  have HR := Lib.hid hR; clear hR
  have hop := fun w => ref_Operands 23 w
  have e1 : opndN 23 = 1 := by decide
  rw [e1] at hop
  cases hb : (b == 0)
  · have hb2 : (b != 0) = true := by rw [bne, hb]; rfl
    have HB := Lib.hid hb; clear hb
    go_enter Tryz.func55, Tryz.ntmps55
    go_wp2_with fail
    rw [← hW]
    refine hN.mono ?_
    rintro e w1 ⟨rfl, t1⟩
    have d0 := tch_cell t1 c0
    have d1 := tch_cell t1 c1
    have d2 := tch_cell t1 c2
    have t2 := tw.then t1
    clear hN c0 c1 c2 hW
    go_wp2_with fail
    go_ret
    exact ⟨by rw [HR.out, HB.out, Bool.and_false]; rfl, t2⟩
  · obtain rfl : b = 0 := by simpa using hb
    clear hb
    have hw := fun w => ref_within a 0 119 w
    go_enter Tryz.func55, Tryz.ntmps55
    go_wp2_with fail
    rw [← hW]
    refine hN.mono ?_
    rintro e w1 ⟨rfl, t1⟩
    have d0 := tch_cell t1 c0
    have d1 := tch_cell t1 c1
    have d2 := tch_cell t1 c2
    have t2 := tw.then t1
    clear hN c0 c1 c2 hW
    go_wp2_with fail
    refine (hop _).mono ?_
    rintro e w' ⟨rfl, rfl⟩
    go_wp2_with fail
    refine (hw _).mono ?_
    rintro e w' ⟨rfl, rfl⟩
    go_wp2_with fail
    go_ret
    exact ⟨by rw [HR.out]; simp, t2⟩

set_option maxRecDepth 100000 in
set_option maxHeartbeats 2000000 in
theorem ref_Right_24 (a b : Int) (w : World) : Calls Tryz.prog 55 #[.agg #[.int .i64 24, .int .i64 a, .int .i64 b]] w fun e w' => e = .returned (.bool (rightI 24 a b)) ∧ Tch [] w w' := by
  obtain ⟨W, hW⟩ : ∃ W, W = w.alloc (.cells #[.int .i64 24, .int .i64 a, .int .i64 b] 57) := ⟨_, rfl⟩
  have tw : Tch [] w W := by rw [hW]; exact (Tch.refl [] w).alloc _
  have c0 : W.cell? ⟨w.heap.size, 0, none⟩ = some (.int .i64 24) := by rw [hW]; simp [go_sem]
  have c1 : W.cell? ⟨w.heap.size, 1, none⟩ = some (.int .i64 a) := by rw [hW]; simp [go_sem]
  have c2 : W.cell? ⟨w.heap.size, 2, none⟩ = some (.int .i64 b) := by rw [hW]; simp [go_sem]
  obtain ⟨c, l, hN⟩ := ref_Name_some 24 (by omega) W
  have hR : rightI 24 a b = (decide (0 ≤ a ∧ a ≤ 119) && b == 0) := by unfold rightI limLo limHi; rw [Bool.eq_iff_iff]; simp; omega
  have HR := Lib.hid hR; clear hR
  have hop := fun w => ref_Operands 24 w
  have e1 : opndN 24 = 1 := by decide
  rw [e1] at hop
  cases hb : (b == 0)
  · have hb2 : (b != 0) = true := by rw [bne, hb]; rfl
    have HB := Lib.hid hb; clear hb
    go_enter Tryz.func55, Tryz.ntmps55
    go_wp2_with fail
    rw [← hW]
    refine hN.mono ?_
    rintro e w1 ⟨rfl, t1⟩
    have d0 := tch_cell t1 c0
    have d1 := tch_cell t1 c1
    have d2 := tch_cell t1 c2
    have t2 := tw.then t1
    clear hN c0 c1 c2 hW
    go_wp2_with fail
    go_ret
    exact ⟨by rw [HR.out, HB.out, Bool.and_false]; rfl, t2⟩
  · obtain rfl : b = 0 := by simpa using hb
    clear hb
    have hw := fun w => ref_within a 0 119 w
    go_enter Tryz.func55, Tryz.ntmps55
    go_wp2_with fail
    rw [← hW]
    refine hN.mono ?_
    rintro e w1 ⟨rfl, t1⟩
    have d0 := tch_cell t1 c0
    have d1 := tch_cell t1 c1
    have d2 := tch_cell t1 c2
    have t2 := tw.then t1
    clear hN c0 c1 c2 hW
    go_wp2_with fail
    refine (hop _).mono ?_
    rintro e w' ⟨rfl, rfl⟩
    go_wp2_with fail
    refine (hw _).mono ?_
    rintro e w' ⟨rfl, rfl⟩
    go_wp2_with fail
    go_ret
    exact ⟨by rw [HR.out]; simp, t2⟩

set_option maxRecDepth 100000 in
set_option maxHeartbeats 2000000 in
theorem ref_Right_25 (a b : Int) (w : World) : Calls Tryz.prog 55 #[.agg #[.int .i64 25, .int .i64 a, .int .i64 b]] w fun e w' => e = .returned (.bool (rightI 25 a b)) ∧ Tch [] w w' := by
  obtain ⟨W, hW⟩ : ∃ W, W = w.alloc (.cells #[.int .i64 25, .int .i64 a, .int .i64 b] 57) := ⟨_, rfl⟩
  have tw : Tch [] w W := by rw [hW]; exact (Tch.refl [] w).alloc _
  have c0 : W.cell? ⟨w.heap.size, 0, none⟩ = some (.int .i64 25) := by rw [hW]; simp [go_sem]
  have c1 : W.cell? ⟨w.heap.size, 1, none⟩ = some (.int .i64 a) := by rw [hW]; simp [go_sem]
  have c2 : W.cell? ⟨w.heap.size, 2, none⟩ = some (.int .i64 b) := by rw [hW]; simp [go_sem]
  obtain ⟨c, l, hN⟩ := ref_Name_some 25 (by omega) W
  have hR : rightI 25 a b = (decide (3 ≤ a ∧ a ≤ 4) && b == 0) := by unfold rightI limLo limHi; rw [Bool.eq_iff_iff]; simp; omega
  have HR := Lib.hid hR; clear hR
  have hop := fun w => ref_Operands 25 w
  have e1 : opndN 25 = 1 := by decide
  rw [e1] at hop
  cases hb : (b == 0)
  · have hb2 : (b != 0) = true := by rw [bne, hb]; rfl
    have HB := Lib.hid hb; clear hb
    go_enter Tryz.func55, Tryz.ntmps55
    go_wp2_with fail
    rw [← hW]
    refine hN.mono ?_
    rintro e w1 ⟨rfl, t1⟩
    have d0 := tch_cell t1 c0
    have d1 := tch_cell t1 c1
    have d2 := tch_cell t1 c2
    have t2 := tw.then t1
    clear hN c0 c1 c2 hW
    go_wp2_with fail
    go_ret
    exact ⟨by rw [HR.out, HB.out, Bool.and_false]; rfl, t2⟩
  · obtain rfl : b = 0 := by simpa using hb
    clear hb
    have hw := fun w => ref_within a 3 4 w
    go_enter Tryz.func55, Tryz.ntmps55
    go_wp2_with fail
    rw [← hW]
    refine hN.mono ?_
    rintro e w1 ⟨rfl, t1⟩
    have d0 := tch_cell t1 c0
    have d1 := tch_cell t1 c1
    have d2 := tch_cell t1 c2
    have t2 := tw.then t1
    clear hN c0 c1 c2 hW
    go_wp2_with fail
    refine (hop _).mono ?_
    rintro e w' ⟨rfl, rfl⟩
    go_wp2_with fail
    refine (hw _).mono ?_
    rintro e w' ⟨rfl, rfl⟩
    go_wp2_with fail
    go_ret
    exact ⟨by rw [HR.out]; simp, t2⟩

set_option maxRecDepth 100000 in
set_option maxHeartbeats 2000000 in
theorem ref_Right_33 (a b : Int) (w : World) : Calls Tryz.prog 55 #[.agg #[.int .i64 33, .int .i64 a, .int .i64 b]] w fun e w' => e = .returned (.bool (rightI 33 a b)) ∧ Tch [] w w' := by
  obtain ⟨W, hW⟩ : ∃ W, W = w.alloc (.cells #[.int .i64 33, .int .i64 a, .int .i64 b] 57) := ⟨_, rfl⟩
  have tw : Tch [] w W := by rw [hW]; exact (Tch.refl [] w).alloc _
  have c0 : W.cell? ⟨w.heap.size, 0, none⟩ = some (.int .i64 33) := by rw [hW]; simp [go_sem]
  have c1 : W.cell? ⟨w.heap.size, 1, none⟩ = some (.int .i64 a) := by rw [hW]; simp [go_sem]
  have c2 : W.cell? ⟨w.heap.size, 2, none⟩ = some (.int .i64 b) := by rw [hW]; simp [go_sem]
  obtain ⟨c, l, hN⟩ := ref_Name_some 33 (by omega) W
  have hR : rightI 33 a b = (decide (0 ≤ a ∧ a ≤ 7) && b == 0) := by unfold rightI limLo limHi; rw [Bool.eq_iff_iff]; simp; omega
  have HR := Lib.hid hR; clear hR
  have hop := fun w => ref_Operands 33 w
  have e1 : opndN 33 = 1 := by decide
  rw [e1] at hop
  cases hb : (b == 0)
  · have hb2 : (b != 0) = true := by rw [bne, hb]; rfl
    have HB := Lib.hid hb; clear hb
    go_enter Tryz.func55, Tryz.ntmps55
    go_wp2_with fail
    rw [← hW]
    refine hN.mono ?_
    rintro e w1 ⟨rfl, t1⟩
    have d0 := tch_cell t1 c0
    have d1 := tch_cell t1 c1
    have d2 := tch_cell t1 c2
    have t2 := tw.then t1
    clear hN c0 c1 c2 hW
    go_wp2_with fail
    go_ret
    exact ⟨by rw [HR.out, HB.out, Bool.and_false]; rfl, t2⟩
  · obtain rfl : b = 0 := by simpa using hb
    clear hb
    have hw := fun w => ref_within a 0 7 w
    go_enter Tryz.func55, Tryz.ntmps55
    go_wp2_with fail
    rw [← hW]
    refine hN.mono ?_
    rintro e w1 ⟨rfl, t1⟩
    have d0 := tch_cell t1 c0
    have d1 := tch_cell t1 c1
    have d2 := tch_cell t1 c2
    have t2 := tw.then t1
    clear hN c0 c1 c2 hW
    go_wp2_with fail
    refine (hop _).mono ?_
    rintro e w' ⟨rfl, rfl⟩
    go_wp2_with fail
    refine (hw _).mono ?_
    rintro e w' ⟨rfl, rfl⟩
    go_wp2_with fail
    go_ret
    exact ⟨by rw [HR.out]; simp, t2⟩

set_option maxRecDepth 100000 in
set_option maxHeartbeats 2000000 in
theorem ref_Right_34 (a b : Int) (w : World) : Calls Tryz.prog 55 #[.agg #[.int .i64 34, .int .i64 a, .int .i64 b]] w fun e w' => e = .returned (.bool (rightI 34 a b)) ∧ Tch [] w w' := by
  obtain ⟨W, hW⟩ : ∃ W, W = w.alloc (.cells #[.int .i64 34, .int .i64 a, .int .i64 b] 57) := ⟨_, rfl⟩
  have tw : Tch [] w W := by rw [hW]; exact (Tch.refl [] w).alloc _
  have c0 : W.cell? ⟨w.heap.size, 0, none⟩ = some (.int .i64 34) := by rw [hW]; simp [go_sem]
  have c1 : W.cell? ⟨w.heap.size, 1, none⟩ = some (.int .i64 a) := by rw [hW]; simp [go_sem]
  have c2 : W.cell? ⟨w.heap.size, 2, none⟩ = some (.int .i64 b) := by rw [hW]; simp [go_sem]
  obtain ⟨c, l, hN⟩ := ref_Name_some 34 (by omega) W
  have hR : rightI 34 a b = (decide (0 ≤ a ∧ a ≤ 7) && b == 0) := by unfold rightI limLo limHi; rw [Bool.eq_iff_iff]; simp; omega
  have HR := Lib.hid hR; clear hR
  have hop := fun w => ref_Operands 34 w
  have e1 : opndN 34 = 1 := by decide
  rw [e1] at hop
  cases hb : (b == 0)
  · have hb2 : (b != 0) = true := by rw [bne, hb]; rfl
    have HB := Lib.hid hb; clear hb
    go_enter Tryz.func55, Tryz.ntmps55
    go_wp2_with fail
    rw [← hW]
    refine hN.mono ?_
    rintro e w1 ⟨rfl, t1⟩
    have d0 := tch_cell t1 c0
    have d1 := tch_cell t1 c1
    have d2 := tch_cell t1 c2
    have t2 := tw.then t1
    clear hN c0 c1 c2 hW
    go_wp2_with fail
    go_ret
    exact ⟨by rw [HR.out, HB.out, Bool.and_false]; rfl, t2⟩
  · obtain rfl : b = 0 := by simpa using hb
    clear hb
    have hw := fun w => ref_within a 0 7 w
    go_enter Tryz.func55, Tryz.ntmps55
    go_wp2_with fail
    rw [← hW]
    refine hN.mono ?_
    rintro e w1 ⟨rfl, t1⟩
    have d0 := tch_cell t1 c0
    have d1 := tch_cell t1 c1
    have d2 := tch_cell t1 c2
    have t2 := tw.then t1
    clear hN c0 c1 c2 hW
    go_wp2_with fail
    refine (hop _).mono ?_
    rintro e w' ⟨rfl, rfl⟩
    go_wp2_with fail
    refine (hw _).mono ?_
    rintro e w' ⟨rfl, rfl⟩
    go_wp2_with fail
    go_ret
    exact ⟨by rw [HR.out]; simp, t2⟩

set_option maxRecDepth 100000 in
set_option maxHeartbeats 2000000 in
theorem ref_Right_35 (a b : Int) (w : World) : Calls Tryz.prog 55 #[.agg #[.int .i64 35, .int .i64 a, .int .i64 b]] w fun e w' => e = .returned (.bool (rightI 35 a b)) ∧ Tch [] w w' := by
  obtain ⟨W, hW⟩ : ∃ W, W = w.alloc (.cells #[.int .i64 35, .int .i64 a, .int .i64 b] 57) := ⟨_, rfl⟩
  have tw : Tch [] w W := by rw [hW]; exact (Tch.refl [] w).alloc _
  have c0 : W.cell? ⟨w.heap.size, 0, none⟩ = some (.int .i64 35) := by rw [hW]; simp [go_sem]
  have c1 : W.cell? ⟨w.heap.size, 1, none⟩ = some (.int .i64 a) := by rw [hW]; simp [go_sem]
  have c2 : W.cell? ⟨w.heap.size, 2, none⟩ = some (.int .i64 b) := by rw [hW]; simp [go_sem]
  obtain ⟨c, l, hN⟩ := ref_Name_some 35 (by omega) W
  have hR : rightI 35 a b = (decide (1 ≤ a ∧ a ≤ 2) && b == 0) := by unfold rightI limLo limHi; rw [Bool.eq_iff_iff]; simp; omega
  have HR := Lib.hid hR; clear hR
  have hop := fun w => ref_Operands 35 w
  have e1 : opndN 35 = 1 := by decide
  rw [e1] at hop
  cases hb : (b == 0)
  · have hb2 : (b != 0) = true := by rw [bne, hb]; rfl
    have HB := Lib.hid hb; clear hb
    go_enter Tryz.func55, Tryz.ntmps55
    go_wp2_with fail
    rw [← hW]
    refine hN.mono ?_
    rintro e w1 ⟨rfl, t1⟩
    have d0 := tch_cell t1 c0
    have d1 := tch_cell t1 c1
    have d2 := tch_cell t1 c2
    have t2 := tw.then t1
    clear hN c0 c1 c2 hW
    go_wp2_with fail
    go_ret
    exact ⟨by rw [HR.out, HB.out, Bool.and_false]; rfl, t2⟩
  · obtain rfl : b = 0 := by simpa using hb
    clear hb
    have hw := fun w => ref_within a 1 2 w
    go_enter Tryz.func55, Tryz.ntmps55
    go_wp2_with fail
    rw [← hW]
    refine hN.mono ?_
    rintro e w1 ⟨rfl, t1⟩
    have d0 := tch_cell t1 c0
    have d1 := tch_cell t1 c1
    have d2 := tch_cell t1 c2
    have t2 := tw.then t1
    clear hN c0 c1 c2 hW
    go_wp2_with fail
    refine (hop _).mono ?_
    rintro e w' ⟨rfl, rfl⟩
    go_wp2_with fail
    refine (hw _).mono ?_
    rintro e w' ⟨rfl, rfl⟩
    go_wp2_with fail
    go_ret
    exact ⟨by rw [HR.out]; simp, t2⟩

set_option maxRecDepth 100000 in
set_option maxHeartbeats 2000000 in
theorem ref_Right_36 (a b : Int) (w : World) : Calls Tryz.prog 55 #[.agg #[.int .i64 36, .int .i64 a, .int .i64 b]] w fun e w' => e = .returned (.bool (rightI 36 a b)) ∧ Tch [] w w' := by
  obtain ⟨W, hW⟩ : ∃ W, W = w.alloc (.cells #[.int .i64 36, .int .i64 a, .int .i64 b] 57) := ⟨_, rfl⟩
  have tw : Tch [] w W := by rw [hW]; exact (Tch.refl [] w).alloc _
  have c0 : W.cell? ⟨w.heap.size, 0, none⟩ = some (.int .i64 36) := by rw [hW]; simp [go_sem]
  have c1 : W.cell? ⟨w.heap.size, 1, none⟩ = some (.int .i64 a) := by rw [hW]; simp [go_sem]
  have c2 : W.cell? ⟨w.heap.size, 2, none⟩ = some (.int .i64 b) := by rw [hW]; simp [go_sem]
  obtain ⟨c, l, hN⟩ := ref_Name_some 36 (by omega) W
  have hR : rightI 36 a b = (decide (1 ≤ a ∧ a ≤ 2) && b == 0) := by unfold rightI limLo limHi; rw [Bool.eq_iff_iff]; simp; omega
  have HR := Lib.hid hR; clear hR
  have hop := fun w => ref_Operands 36 w
  have e1 : opndN 36 = 1 := by decide
  rw [e1] at hop
  cases hb : (b == 0)
  · have hb2 : (b != 0) = true := by rw [bne, hb]; rfl
    have HB := Lib.hid hb; clear hb
    go_enter Tryz.func55, Tryz.ntmps55
    go_wp2_with fail
    rw [← hW]
    refine hN.mono ?_
    rintro e w1 ⟨rfl, t1⟩
    have d0 := tch_cell t1 c0
    have d1 := tch_cell t1 c1
    have d2 := tch_cell t1 c2
    have t2 := tw.then t1
    clear hN c0 c1 c2 hW
    go_wp2_with fail
    go_ret
    exact ⟨by rw [HR.out, HB.out, Bool.and_false]; rfl, t2⟩
  · obtain rfl : b = 0 := by simpa using hb
    clear hb
    have hw := fun w => ref_within a 1 2 w
    go_enter Tryz.func55, Tryz.ntmps55
    go_wp2_with fail
    rw [← hW]
    refine hN.mono ?_
    rintro e w1 ⟨rfl, t1⟩
    have d0 := tch_cell t1 c0
    have d1 := tch_cell t1 c1
    have d2 := tch_cell t1 c2
    have t2 := tw.then t1
    clear hN c0 c1 c2 hW
    go_wp2_with fail
    refine (hop _).mono ?_
    rintro e w' ⟨rfl, rfl⟩
    go_wp2_with fail
    refine (hw _).mono ?_
    rintro e w' ⟨rfl, rfl⟩
    go_wp2_with fail
    go_ret
    exact ⟨by rw [HR.out]; simp, t2⟩

set_option maxRecDepth 100000 in
set_option maxHeartbeats 2000000 in
theorem ref_Right_37 (a b : Int) (w : World) : Calls Tryz.prog 55 #[.agg #[.int .i64 37, .int .i64 a, .int .i64 b]] w fun e w' => e = .returned (.bool (rightI 37 a b)) ∧ Tch [] w w' := by
  obtain ⟨W, hW⟩ : ∃ W, W = w.alloc (.cells #[.int .i64 37, .int .i64 a, .int .i64 b] 57) := ⟨_, rfl⟩
  have tw : Tch [] w W := by rw [hW]; exact (Tch.refl [] w).alloc _
  have c0 : W.cell? ⟨w.heap.size, 0, none⟩ = some (.int .i64 37) := by rw [hW]; simp [go_sem]
  have c1 : W.cell? ⟨w.heap.size, 1, none⟩ = some (.int .i64 a) := by rw [hW]; simp [go_sem]
  have c2 : W.cell? ⟨w.heap.size, 2, none⟩ = some (.int .i64 b) := by rw [hW]; simp [go_sem]
  obtain ⟨c, l, hN⟩ := ref_Name_some 37 (by omega) W
  have hR : rightI 37 a b = (decide (0 ≤ a ∧ a ≤ 7) && b == 0) := by unfold rightI limLo limHi; rw [Bool.eq_iff_iff]; simp; omega
  have HR := Lib.hid hR; clear hR
  have hop := fun w => ref_Operands 37 w
  have e1 : opndN 37 = 1 := by decide
  rw [e1] at hop
  cases hb : (b == 0)
  · have hb2 : (b != 0) = true := by rw [bne, hb]; rfl
    have HB := Lib.hid hb; clear hb
    go_enter Tryz.func55, Tryz.ntmps55
    go_wp2_with fail
    rw [← hW]
    refine hN.mono ?_
    rintro e w1 ⟨rfl, t1⟩
    have d0 := tch_cell t1 c0
    have d1 := tch_cell t1 c1
    have d2 := tch_cell t1 c2
    have t2 := tw.then t1
    clear hN c0 c1 c2 hW
    go_wp2_with fail
    go_ret
    exact ⟨by rw [HR.out, HB.out, Bool.and_false]; rfl, t2⟩
  · obtain rfl : b = 0 := by simpa using hb
    clear hb
    have hw := fun w => ref_within a 0 7 w
    go_enter Tryz.func55, Tryz.ntmps55
    go_wp2_with fail
    rw [← hW]
    refine hN.mono ?_
    rintro e w1 ⟨rfl, t1⟩
    have d0 := tch_cell t1 c0
    have d1 := tch_cell t1 c1
    have d2 := tch_cell t1 c2
    have t2 := tw.then t1
    clear hN c0 c1 c2 hW
    go_wp2_with fail
    refine (hop _).mono ?_
    rintro e w' ⟨rfl, rfl⟩
    go_wp2_with fail
    refine (hw _).mono ?_
    rintro e w' ⟨rfl, rfl⟩
    go_wp2_with fail
    go_ret
    exact ⟨by rw [HR.out]; simp, t2⟩

set_option maxRecDepth 100000 in
set_option maxHeartbeats 2000000 in
theorem ref_Right_38 (a b : Int) (w : World) : Calls Tryz.prog 55 #[.agg #[.int .i64 38, .int .i64 a, .int .i64 b]] w fun e w' => e = .returned (.bool (rightI 38 a b)) ∧ Tch [] w w' := by
  obtain ⟨W, hW⟩ : ∃ W, W = w.alloc (.cells #[.int .i64 38, .int .i64 a, .int .i64 b] 57) := ⟨_, rfl⟩
  have tw : Tch [] w W := by rw [hW]; exact (Tch.refl [] w).alloc _
  have c0 : W.cell? ⟨w.heap.size, 0, none⟩ = some (.int .i64 38) := by rw [hW]; simp [go_sem]
  have c1 : W.cell? ⟨w.heap.size, 1, none⟩ = some (.int .i64 a) := by rw [hW]; simp [go_sem]
  have c2 : W.cell? ⟨w.heap.size, 2, none⟩ = some (.int .i64 b) := by rw [hW]; simp [go_sem]
  obtain ⟨c, l, hN⟩ := ref_Name_some 38 (by omega) W
  have hR : rightI 38 a b = (decide (0 ≤ a ∧ a ≤ 3) && b == 0) := by unfold rightI limLo limHi; rw [Bool.eq_iff_iff]; simp; omega
  have HR := Lib.hid hR; clear hR
  have hop := fun w => ref_Operands 38 w
  have e1 : opndN 38 = 1 := by decide
  rw [e1] at hop
  cases hb : (b == 0)
  · have hb2 : (b != 0) = true := by rw [bne, hb]; rfl
    have HB := Lib.hid hb; clear hb
    go_enter Tryz.func55, Tryz.ntmps55
    go_wp2_with fail
    rw [← hW]
    refine hN.mono ?_
    rintro e w1 ⟨rfl, t1⟩
    have d0 := tch_cell t1 c0
    have d1 := tch_cell t1 c1
    have d2 := tch_cell t1 c2
    have t2 := tw.then t1
    clear hN c0 c1 c2 hW
    go_wp2_with fail
    go_ret
    exact ⟨by rw [HR.out, HB.out, Bool.and_false]; rfl, t2⟩
  · obtain rfl : b = 0 := by simpa using hb
    clear hb
    have hw := fun w => ref_within a 0 3 w
    go_enter Tryz.func55, Tryz.ntmps55
    go_wp2_with fail
    rw [← hW]
    refine hN.mono ?_
    rintro e w1 ⟨rfl, t1⟩
    have d0 := tch_cell t1 c0
    have d1 := tch_cell t1 c1
    have d2 := tch_cell t1 c2
    have t2 := tw.then t1
    clear hN c0 c1 c2 hW
    go_wp2_with fail
    refine (hop _).mono ?_
    rintro e w' ⟨rfl, rfl⟩
    go_wp2_with fail
    refine (hw _).mono ?_
    rintro e w' ⟨rfl, rfl⟩
    go_wp2_with fail
    go_ret
    exact ⟨by rw [HR.out]; simp, t2⟩
end Go.Proofs.YteebapopeaafhaaGreatDoor
namespace Go.Proofs.YteebapopeaafhaaGreatDoor
open Go.RowKit Go.Tcn
set_option linter.unusedVariables false
set_option linter.unusedSimpArgs false

set_option maxRecDepth 100000 in
set_option maxHeartbeats 2000000 in
theorem ref_Right_27 (a b : Int) (w : World) : Calls Tryz.prog 55 #[.agg #[.int .i64 27, .int .i64 a, .int .i64 b]] w fun e w' => e = .returned (.bool (rightI 27 a b)) ∧ Tch [] w w' := by
  obtain ⟨W, hW⟩ : ∃ W, W = w.alloc (.cells #[.int .i64 27, .int .i64 a, .int .i64 b] 57) := ⟨_, rfl⟩
  have tw : Tch [] w W := by rw [hW]; exact (Tch.refl [] w).alloc _
  have c0 : W.cell? ⟨w.heap.size, 0, none⟩ = some (.int .i64 27) := by rw [hW]; simp [go_sem]
  have c1 : W.cell? ⟨w.heap.size, 1, none⟩ = some (.int .i64 a) := by rw [hW]; simp [go_sem]
  have c2 : W.cell? ⟨w.heap.size, 2, none⟩ = some (.int .i64 b) := by rw [hW]; simp [go_sem]
  obtain ⟨c, l, hN⟩ := ref_Name_some 27 (by omega) W
  have hR : rightI 27 a b = (decide (3 ≤ a ∧ a ≤ 4) && (decide (0 ≤ b ∧ b ≤ 2) || decide (4 ≤ b ∧ b ≤ 6))) := by unfold rightI limLo limHi; rw [Bool.eq_iff_iff]; simp; omega
  have HR := Lib.hid hR; clear hR
  have hop := fun w => ref_Operands 27 w
  have e1 : opndN 27 = 2 := by decide
  rw [e1] at hop
  have v1 := fun w => ref_within a 3 4 w
  have v2 := fun w => ref_within b 0 2 w
  have v3 := fun w => ref_within b 4 6 w
  generalize decide (3 ≤ a ∧ a ≤ 4) = x at *
  generalize decide (0 ≤ b ∧ b ≤ 2) = y at *
  generalize decide (4 ≤ b ∧ b ≤ 6) = z at *
  cases x
  · go_enter Tryz.func55, Tryz.ntmps55
    go_wp2_with fail
    rw [← hW]
    refine hN.mono ?_
    rintro e w1 ⟨rfl, t1⟩
    have d0 := tch_cell t1 c0
    have d1 := tch_cell t1 c1
    have d2 := tch_cell t1 c2
    have t2 := tw.then t1
    clear hN c0 c1 c2 hW
    go_wp2_with fail
    refine (hop _).mono ?_
    rintro e w' ⟨rfl, rfl⟩
    go_wp2_with fail
    refine (v1 _).mono ?_
    rintro e w' ⟨rfl, rfl⟩
    go_wp2_with fail
    go_ret
    exact ⟨by rw [HR.out]; rfl, t2⟩
  · cases y
    · go_enter Tryz.func55, Tryz.ntmps55
      go_wp2_with fail
      rw [← hW]
      refine hN.mono ?_
      rintro e w1 ⟨rfl, t1⟩
      have d0 := tch_cell t1 c0
      have d1 := tch_cell t1 c1
      have d2 := tch_cell t1 c2
      have t2 := tw.then t1
      clear hN c0 c1 c2 hW
      go_wp2_with fail
      refine (hop _).mono ?_
      rintro e w' ⟨rfl, rfl⟩
      go_wp2_with fail
      refine (v1 _).mono ?_
      rintro e w' ⟨rfl, rfl⟩
      go_wp2_with fail
      refine (v2 _).mono ?_
      rintro e w' ⟨rfl, rfl⟩
      go_wp2_with fail
      refine (v3 _).mono ?_
      rintro e w' ⟨rfl, rfl⟩
      go_wp2_with fail
      go_ret
      exact ⟨by rw [HR.out]; simp, t2⟩
    · go_enter Tryz.func55, Tryz.ntmps55
      go_wp2_with fail
      rw [← hW]
      refine hN.mono ?_
      rintro e w1 ⟨rfl, t1⟩
      have d0 := tch_cell t1 c0
      have d1 := tch_cell t1 c1
      have d2 := tch_cell t1 c2
      have t2 := tw.then t1
      clear hN c0 c1 c2 hW
      go_wp2_with fail
      refine (hop _).mono ?_
      rintro e w' ⟨rfl, rfl⟩
      go_wp2_with fail
      refine (v1 _).mono ?_
      rintro e w' ⟨rfl, rfl⟩
      go_wp2_with fail
      refine (v2 _).mono ?_
      rintro e w' ⟨rfl, rfl⟩
      go_wp2_with fail
      go_ret
      exact ⟨by rw [HR.out]; simp, t2⟩

set_option maxRecDepth 100000 in
set_option maxHeartbeats 2000000 in
theorem ref_Right_rest (op a b : Int) (h : 1 ≤ op ∧ op ≤ 39) (hne : op ≠ 1 ∧ op ≠ 2 ∧ op ≠ 3 ∧ op ≠ 23 ∧ op ≠ 24 ∧ op ≠ 25 ∧ op ≠ 27 ∧ op ≠ 33 ∧ op ≠ 34 ∧ op ≠ 35 ∧ op ≠ 36 ∧ op ≠ 37 ∧ op ≠ 38) (w : World) : Calls Tryz.prog 55 #[.agg #[.int .i64 op, .int .i64 a, .int .i64 b]] w fun e w' => e = .returned (.bool (rightI op a b)) ∧ Tch [] w w' := by
  obtain ⟨W, hW⟩ : ∃ W, W = w.alloc (.cells #[.int .i64 op, .int .i64 a, .int .i64 b] 57) := ⟨_, rfl⟩
  have tw : Tch [] w W := by rw [hW]; exact (Tch.refl [] w).alloc _
  have c0 : W.cell? ⟨w.heap.size, 0, none⟩ = some (.int .i64 op) := by rw [hW]; simp [go_sem]
  have c1 : W.cell? ⟨w.heap.size, 1, none⟩ = some (.int .i64 a) := by rw [hW]; simp [go_sem]
  have c2 : W.cell? ⟨w.heap.size, 2, none⟩ = some (.int .i64 b) := by rw [hW]; simp [go_sem]
  obtain ⟨c, l, hN⟩ := ref_Name_some op h W
  have l1 : limLo op = 0 := by unfold limLo; (repeat rw [if_neg (by omega)])
  have l2 : limHi op = 0 := by unfold limHi; (repeat rw [if_neg (by omega)])
  have hR : rightI op a b = (a == 0 && b == 0) := by have h27 : ¬ op = 27 := (by omega); unfold rightI; rw [l1, l2, Bool.eq_iff_iff]; simp [h27]; omega
  clear l1 l2
  have HR := Lib.hid hR; clear hR
  have hop := fun w => ref_Operands op w
  have e1 : opndN op = 0 := by unfold opndN; rw [if_neg (by omega), if_neg (by omega)]
  rw [e1] at hop
  clear e1
  have hz : (op != 27) = true := by rw [bne_iff_ne]; omega
  have k1 : (op == 1) = false := beq_eq_false_iff_ne.2 (by omega)
  have k2 : (op == 2) = false := beq_eq_false_iff_ne.2 (by omega)
  have k3 : (op == 3) = false := beq_eq_false_iff_ne.2 (by omega)
  have k23 : (op == 23) = false := beq_eq_false_iff_ne.2 (by omega)
  have k24 : (op == 24) = false := beq_eq_false_iff_ne.2 (by omega)
  have k25 : (op == 25) = false := beq_eq_false_iff_ne.2 (by omega)
  have k27 : (op == 27) = false := beq_eq_false_iff_ne.2 (by omega)
  have k33 : (op == 33) = false := beq_eq_false_iff_ne.2 (by omega)
  have k34 : (op == 34) = false := beq_eq_false_iff_ne.2 (by omega)
  have k35 : (op == 35) = false := beq_eq_false_iff_ne.2 (by omega)
  have k36 : (op == 36) = false := beq_eq_false_iff_ne.2 (by omega)
  have k37 : (op == 37) = false := beq_eq_false_iff_ne.2 (by omega)
  have k38 : (op == 38) = false := beq_eq_false_iff_ne.2 (by omega)
  clear hne h
  cases hb : (b == 0)
  · have hb2 : (b != 0) = true := by rw [bne, hb]; rfl
    have HB := Lib.hid hb; clear hb
    go_enter Tryz.func55, Tryz.ntmps55
    go_wp2_with fail
    rw [← hW]
    refine hN.mono ?_
    rintro e w1 ⟨rfl, t1⟩
    have d0 := tch_cell t1 c0
    have d1 := tch_cell t1 c1
    have d2 := tch_cell t1 c2
    have t2 := tw.then t1
    clear hN c0 c1 c2 hW
    go_wp2_with fail
    go_ret
    exact ⟨by rw [HR.out, HB.out, Bool.and_false]; rfl, t2⟩
  · obtain rfl : b = 0 := by simpa using hb
    clear hb
    cases ha : (a == 0)
    · have ha2 : (a != 0) = true := by rw [bne, ha]; rfl
      have HA := Lib.hid ha; clear ha
      go_enter Tryz.func55, Tryz.ntmps55
      go_wp2_with fail
      rw [← hW]
      refine hN.mono ?_
      rintro e w1 ⟨rfl, t1⟩
      have d0 := tch_cell t1 c0
      have d1 := tch_cell t1 c1
      have d2 := tch_cell t1 c2
      have t2 := tw.then t1
      clear hN c0 c1 c2 hW
      go_wp2_with fail
      refine (hop _).mono ?_
      rintro e w' ⟨rfl, rfl⟩
      go_wp2_with fail
      go_ret
      exact ⟨by rw [HR.out, HA.out, Bool.false_and]; rfl, t2⟩
    · obtain rfl : a = 0 := by simpa using ha
      clear ha
      go_enter Tryz.func55, Tryz.ntmps55
      go_wp2_with fail
      rw [← hW]
      refine hN.mono ?_
      rintro e w1 ⟨rfl, t1⟩
      have d0 := tch_cell t1 c0
      have d1 := tch_cell t1 c1
      have d2 := tch_cell t1 c2
      have t2 := tw.then t1
      clear hN c0 c1 c2 hW
      go_wp2_with fail
      refine (hop _).mono ?_
      rintro e w' ⟨rfl, rfl⟩
      go_wp2_with fail
      go_ret
      exact ⟨by rw [HR.out]; rfl, t2⟩
set_option maxRecDepth 100000 in
set_option maxHeartbeats 2000000 in
theorem ref_Right_no (op a b : Int) (h : ¬ (1 ≤ op ∧ op ≤ 39)) (w : World) : Calls Tryz.prog 55 #[.agg #[.int .i64 op, .int .i64 a, .int .i64 b]] w fun e w' => e = .returned (.bool (rightI op a b)) ∧ Tch [] w w' := by
  obtain ⟨W, hW⟩ : ∃ W, W = w.alloc (.cells #[.int .i64 op, .int .i64 a, .int .i64 b] 57) := ⟨_, rfl⟩
  have tw : Tch [] w W := by rw [hW]; exact (Tch.refl [] w).alloc _
  have c0 : W.cell? ⟨w.heap.size, 0, none⟩ = some (.int .i64 op) := by rw [hW]; simp [go_sem]
  have c1 : W.cell? ⟨w.heap.size, 1, none⟩ = some (.int .i64 a) := by rw [hW]; simp [go_sem]
  have c2 : W.cell? ⟨w.heap.size, 2, none⟩ = some (.int .i64 b) := by rw [hW]; simp [go_sem]
  have hN := ref_Name_none op h W
  have hR : rightI op a b = false := by unfold rightI; simp; omega
  have HR := Lib.hid hR; clear hR
  clear h
  go_enter Tryz.func55, Tryz.ntmps55
  go_wp2_with fail
  rw [← hW]
  refine hN.mono ?_
  rintro e w1 ⟨rfl, t1⟩
  have d0 := tch_cell t1 c0
  have d1 := tch_cell t1 c1
  have d2 := tch_cell t1 c2
  have t2 := tw.then t1
  clear hN c0 c1 c2 hW
  go_wp2_with fail
  go_ret
  exact ⟨by rw [HR.out]; rfl, t2⟩
theorem ref_Right (op a b : Int) (w : World) : Calls Tryz.prog 55 #[.agg #[.int .i64 op, .int .i64 a, .int .i64 b]] w fun e w' => e = .returned (.bool (rightI op a b)) ∧ Tch [] w w' := by
  by_cases h : 1 ≤ op ∧ op ≤ 39
  · by_cases hne : op ≠ 1 ∧ op ≠ 2 ∧ op ≠ 3 ∧ op ≠ 23 ∧ op ≠ 24 ∧ op ≠ 25 ∧ op ≠ 27 ∧ op ≠ 33 ∧ op ≠ 34 ∧ op ≠ 35 ∧ op ≠ 36 ∧ op ≠ 37 ∧ op ≠ 38
    · exact ref_Right_rest op a b h hne w
    · have hc : op = 1 ∨ op = 2 ∨ op = 3 ∨ op = 23 ∨ op = 24 ∨ op = 25 ∨ op = 27 ∨ op = 33 ∨ op = 34 ∨ op = 35 ∨ op = 36 ∨ op = 37 ∨ op = 38 := by omega
      rcases hc with rfl | rfl | rfl | rfl | rfl | rfl | rfl | rfl | rfl | rfl | rfl | rfl | rfl
      · exact ref_Right_1 a b w
      · exact ref_Right_2 a b w
      · exact ref_Right_3 a b w
      · exact ref_Right_23 a b w
      · exact ref_Right_24 a b w
      · exact ref_Right_25 a b w
      · exact ref_Right_27 a b w
      · exact ref_Right_33 a b w
      · exact ref_Right_34 a b w
      · exact ref_Right_35 a b w
      · exact ref_Right_36 a b w
      · exact ref_Right_37 a b w
      · exact ref_Right_38 a b w
  · exact ref_Right_no op a b h w
end Go.Proofs.YteebapopeaafhaaGreatDoor
