/-
  CONTRACTS: code.split, Name, Op, Operands, limits, Right. Conditions: none.
  CONTRACTS: Operands, limits, Right, names, Name, Op of code and taciturnref1. Conditions: none.
  CONTRACTS: names, Name, Op, within, Right of taciturnref1. Conditions: none.
  CONTRACTS: Right of taciturnref1. Conditions: none.
  CONTRACTS: Right of taciturnref1, all of it. Conditions: none.
-/
import Derived.Test.YteebapopeaafhaaDoorHCodeP
import Derived.Test.YteebapopeaafhaaDoorRows
import Derived.Laws.RangeAny
import Derived.Laws.Runes
namespace Go.Proofs.YteebapopeaafhaaDoor
open Go.RowKit Go.Tcn
set_option linter.unusedVariables false
set_option linter.unusedSimpArgs false
theorem Name1_no (n op : Int) (word : ByteArray) (a b : Nat) (w : World) (h : (n == op) = false) (ha : w.cell? ⟨a, 0, none⟩ = some (.int .i64 op)) :
    Calls Tryd.prog 86 #[.int .i64 n, .string word, .pointer (some ⟨a, 0, none⟩), .pointer (some ⟨b, 0, none⟩)] w fun e w' => e = .returned (.bool false) ∧ w = w' := by
  go_enter Tryd.func86, Tryd.ntmps86
  go_wp2
  go_ret
  exact ⟨rfl, rfl⟩
theorem Name1_yes (n : Int) (word : ByteArray) (a b : Nat) (u : ByteArray) (w : World) (ha : w.cell? ⟨a, 0, none⟩ = some (.int .i64 n)) (hb : w.cell? ⟨b, 0, none⟩ = some (.string u)) (hf : w.frozen? ⟨b, 0, none⟩ = false) (hab : a ≠ b) :
    Calls Tryd.prog 86 #[.int .i64 n, .string word, .pointer (some ⟨a, 0, none⟩), .pointer (some ⟨b, 0, none⟩)] w fun e w' => e = .returned (.bool true) ∧ w' = w.setCell ⟨b, 0, none⟩ (.string word) := by
  go_enter Tryd.func86, Tryd.ntmps86
  go_wp2
  go_ret
  exact ⟨rfl, rfl⟩
theorem words_size : wordsL.length = 176 := by decide +kernel
theorem words_ascii : ∀ c ∈ wordsL, c.toNat < 128 := by decide +kernel
theorem enc_ascii (c : UInt8) (h : c.toNat < 128) : Utf8.encode (c.toNat : Int) = ⟨#[c]⟩ := by
  unfold Utf8.encode
  have hv : Utf8.valid (c.toNat : Int) = true := by rw [validRune_eq]; unfold validRune; simp; omega
  simp [hv, h]
theorem mk_snoc (l : List UInt8) (c : UInt8) : (ByteArray.mk l.toArray ++ ByteArray.mk #[c]) = ByteArray.mk (l ++ [c]).toArray := by
  have := ByteArray.mk_append_mk l [c]
  simpa using this
set_option maxRecDepth 100000 in
set_option maxHeartbeats 2000000 in
theorem code_split_Name (w : World) (c0 c1 : Value) (stop : Nat → List UInt8 → Bool) (Post : Nat → List UInt8 → World → Prop)
    (hno : ∀ (n : Nat) (word : List UInt8) (wx : World), stop n word = false → Tch [] w wx → Calls Tryd.prog 86 #[.int .i64 n, .string ⟨word.toArray⟩, c0, c1] wx fun e w' => e = .returned (.bool false) ∧ wx = w')
    (hyes : ∀ (n : Nat) (word : List UInt8) (wx : World), stop n word = true → Tch [] w wx → Calls Tryd.prog 86 #[.int .i64 n, .string ⟨word.toArray⟩, c0, c1] wx fun e w' => e = .returned (.bool true) ∧ Post n word w') :
    Calls Tryd.prog 85 #[.func (.func 86) #[] #[c0, c1]] w fun e w' => e = .returned (.tuple #[]) ∧ (findW stop wordsL 1 [] = none → Tch [] w w') ∧ (∀ n word, findW stop wordsL 1 [] = some (n, word) → Post n word w') := by
  go_enter Tryd.func85, Tryd.ntmps85
  go_wp2
  generalize hwi : World.iter w _ 0 = wi
  have hwi2 : wi = w.iter ⟨wordsL.toArray⟩ 0 := by rw [← hwi]; exact congrArg (fun l => w.iter ⟨l⟩ 0) (by decide +kernel)
  clear hwi
  obtain ⟨S, hSd⟩ : ∃ S : ByteArray, S = ⟨wordsL.toArray⟩ := ⟨_, rfl⟩
  rw [← hSd] at hwi2
  have hS1 : S.size = 176 := by rw [hSd]; simp [ByteArray.size, words_size]
  have hS2 : ∀ (k : Nat) (h : k < S.size) (h' : k < wordsL.length), S[k] = wordsL[k] := by subst hSd; intro k h h'; rfl
  clear hSd
  subst hwi2
  go_loopw [2, 3] (fun o v wr => ∃ (pos n : Nat) (word : List UInt8), wr = w.iter S pos ∧ pos ≤ 176 ∧ o = .int .i64 (n : Int) ∧ v = .string ⟨word.toArray⟩ ∧ n ≤ 1 + pos ∧ word.length ≤ pos ∧ Hid (findW stop (wordsL.drop pos) n word = findW stop wordsL 1 [])) (fun _ _ wr => 176 - wr.iterPos w.heap.size)
  case atStart => exact ⟨0, 1, [], rfl, by omega, rfl, rfl, by omega, by simp, Lib.hid (by simp)⟩
  case round =>
    obtain ⟨pos, n, word, rfl, hp, rfl, rfl, hn, hwl, HF⟩ := hrel
    have tw : Tch [] w (w.iter S pos) := (Tch.refl [] w).alloc _
    by_cases hlt : pos < 176
    · have hlS : pos < S.size := by omega
      have hlw : pos < wordsL.length := by rw [words_size]; exact hlt
      have ha := words_ascii _ (List.getElem_mem hlw)
      have hnx : ∀ ty, (Instr.next (.pointer (some ⟨w.heap.size, 0, none⟩)) true ty).run Tryd.prog (w.iter S pos) = .ok (.tuple #[.bool true, .int .i64 pos, .int .i32 ((wordsL[pos]).toNat : Int)]) (w.iter S (pos + 1)) := fun ty => by
        rw [run_next_ascii w S pos ty hlS (by rw [hS2 _ _ hlw]; exact ha), hS2 _ _ hlw]
      have hf := HF.out
      rw [List.drop_eq_getElem_cons hlw, findW] at hf
      have HS2 := Lib.hid hS2; clear hS2 HF
      have he := enc_ascii _ ha
      have HS1 := Lib.hid hS1; clear hS1
      generalize wordsL[pos] = c at *
      by_cases hc : c = 32
      · subst hc
        rw [if_pos rfl] at hf
        cases hst : stop n word
        · rw [hst, if_neg (by simp)] at hf
          have HF2 := Lib.hid hf; clear hf he ha
          have hn0 := Lib.hid (hno n word (w.iter S (pos + 1)) hst ((Tch.refl [] w).alloc _))
          have HST := Lib.hid hst; clear hst hyes hno
          have e32 : ((32 : UInt8).toNat : Int) = 32 := rfl
          rw [e32] at hnx
          go_wp2_with fail
          refine hn0.out.mono ?_
          rintro e w' ⟨rfl, rfl⟩
          go_wp2_with fail
          go_roundw
          case rel => exact ⟨pos + 1, n + 1, [], rfl, by omega, by go_num, rfl, by omega, by simp, HF2⟩
          case measure => simp; omega
        · rw [hst, if_pos rfl] at hf
          have HF2 := Lib.hid hf; clear hf he ha
          have hn0 := Lib.hid (hyes n word (w.iter S (pos + 1)) hst ((Tch.refl [] w).alloc _))
          have HST := Lib.hid hst; clear hst hyes hno
          have e32 : ((32 : UInt8).toNat : Int) = 32 := rfl
          rw [e32] at hnx
          go_wp2_with fail
          refine hn0.out.mono ?_
          rintro e w' ⟨rfl, hpost⟩
          have HP := Lib.hid hpost; clear hpost
          go_wp2_with fail
          refine bodyPost_ret (v := .tuple #[]) (results_none rfl _ _ _) rfl ?_
          refine ⟨rfl, fun hx => ?_, fun n' word' hx => ?_⟩
          · have h1 := HF2.out
            rw [hx] at h1; cases h1
          · have h1 := HF2.out
            rw [hx] at h1
            simp only [Option.some.injEq, Prod.mk.injEq] at h1
            obtain ⟨rfl, rfl⟩ := h1
            exact HP.out
      · rw [if_neg hc] at hf
        have HF2 := Lib.hid hf; clear hf
        have hc2 : ((c.toNat : Int) != 32) = true := by
          rw [bne_iff_ne]
          intro h
          apply hc
          apply UInt8.toNat_inj.1
          show c.toNat = 32
          omega
        have hcn := mk_snoc word c
        have hws : word.length < 1000 := by omega
        clear hc hno hyes ha
        go_wp2_with fail
        go_roundw
        case rel => exact ⟨pos + 1, n, word ++ [c], rfl, by omega, rfl, rfl, by omega, by simp; omega, HF2⟩
        case measure => simp; omega
    · have hnx : ∀ ty, (Instr.next (.pointer (some ⟨w.heap.size, 0, none⟩)) true ty).run Tryd.prog (w.iter S pos) = .ok (.tuple #[.bool false]) (w.iter S pos) := fun ty => run_next_end w S pos ty (by omega)
      have hf := HF.out
      rw [List.drop_eq_nil_of_le (by rw [words_size]; omega), findW] at hf
      have HF2 := Lib.hid hf; clear hf hno hyes
      go_wp2_with fail
      go_end0
      refine ⟨rfl, fun _ => tw, fun n' word' hx => ?_⟩
      have h1 := HF2.out
      rw [hx] at h1; cases h1
set_option maxRecDepth 100000 in
set_option maxHeartbeats 2000000 in
theorem code_split_Op (w : World) (c0 c1 : Value) (stop : Nat → List UInt8 → Bool) (Post : Nat → List UInt8 → World → Prop)
    (hno : ∀ (n : Nat) (word : List UInt8) (wx : World), stop n word = false → Tch [] w wx → Calls Tryd.prog 92 #[.int .i64 n, .string ⟨word.toArray⟩, c0, c1] wx fun e w' => e = .returned (.bool false) ∧ wx = w')
    (hyes : ∀ (n : Nat) (word : List UInt8) (wx : World), stop n word = true → Tch [] w wx → Calls Tryd.prog 92 #[.int .i64 n, .string ⟨word.toArray⟩, c0, c1] wx fun e w' => e = .returned (.bool true) ∧ Post n word w') :
    Calls Tryd.prog 85 #[.func (.func 92) #[] #[c0, c1]] w fun e w' => e = .returned (.tuple #[]) ∧ (findW stop wordsL 1 [] = none → Tch [] w w') ∧ (∀ n word, findW stop wordsL 1 [] = some (n, word) → Post n word w') := by
  go_enter Tryd.func85, Tryd.ntmps85
  go_wp2
  generalize hwi : World.iter w _ 0 = wi
  have hwi2 : wi = w.iter ⟨wordsL.toArray⟩ 0 := by rw [← hwi]; exact congrArg (fun l => w.iter ⟨l⟩ 0) (by decide +kernel)
  clear hwi
  obtain ⟨S, hSd⟩ : ∃ S : ByteArray, S = ⟨wordsL.toArray⟩ := ⟨_, rfl⟩
  rw [← hSd] at hwi2
  have hS1 : S.size = 176 := by rw [hSd]; simp [ByteArray.size, words_size]
  have hS2 : ∀ (k : Nat) (h : k < S.size) (h' : k < wordsL.length), S[k] = wordsL[k] := by subst hSd; intro k h h'; rfl
  clear hSd
  subst hwi2
  go_loopw [2, 3] (fun o v wr => ∃ (pos n : Nat) (word : List UInt8), wr = w.iter S pos ∧ pos ≤ 176 ∧ o = .int .i64 (n : Int) ∧ v = .string ⟨word.toArray⟩ ∧ n ≤ 1 + pos ∧ word.length ≤ pos ∧ Hid (findW stop (wordsL.drop pos) n word = findW stop wordsL 1 [])) (fun _ _ wr => 176 - wr.iterPos w.heap.size)
  case atStart => exact ⟨0, 1, [], rfl, by omega, rfl, rfl, by omega, by simp, Lib.hid (by simp)⟩
  case round =>
    obtain ⟨pos, n, word, rfl, hp, rfl, rfl, hn, hwl, HF⟩ := hrel
    have tw : Tch [] w (w.iter S pos) := (Tch.refl [] w).alloc _
    by_cases hlt : pos < 176
    · have hlS : pos < S.size := by omega
      have hlw : pos < wordsL.length := by rw [words_size]; exact hlt
      have ha := words_ascii _ (List.getElem_mem hlw)
      have hnx : ∀ ty, (Instr.next (.pointer (some ⟨w.heap.size, 0, none⟩)) true ty).run Tryd.prog (w.iter S pos) = .ok (.tuple #[.bool true, .int .i64 pos, .int .i32 ((wordsL[pos]).toNat : Int)]) (w.iter S (pos + 1)) := fun ty => by
        rw [run_next_ascii w S pos ty hlS (by rw [hS2 _ _ hlw]; exact ha), hS2 _ _ hlw]
      have hf := HF.out
      rw [List.drop_eq_getElem_cons hlw, findW] at hf
      have HS2 := Lib.hid hS2; clear hS2 HF
      have he := enc_ascii _ ha
      have HS1 := Lib.hid hS1; clear hS1
      generalize wordsL[pos] = c at *
      by_cases hc : c = 32
      · subst hc
        rw [if_pos rfl] at hf
        cases hst : stop n word
        · rw [hst, if_neg (by simp)] at hf
          have HF2 := Lib.hid hf; clear hf he ha
          have hn0 := Lib.hid (hno n word (w.iter S (pos + 1)) hst ((Tch.refl [] w).alloc _))
          have HST := Lib.hid hst; clear hst hyes hno
          have e32 : ((32 : UInt8).toNat : Int) = 32 := rfl
          rw [e32] at hnx
          go_wp2_with fail
          refine hn0.out.mono ?_
          rintro e w' ⟨rfl, rfl⟩
          go_wp2_with fail
          go_roundw
          case rel => exact ⟨pos + 1, n + 1, [], rfl, by omega, by go_num, rfl, by omega, by simp, HF2⟩
          case measure => simp; omega
        · rw [hst, if_pos rfl] at hf
          have HF2 := Lib.hid hf; clear hf he ha
          have hn0 := Lib.hid (hyes n word (w.iter S (pos + 1)) hst ((Tch.refl [] w).alloc _))
          have HST := Lib.hid hst; clear hst hyes hno
          have e32 : ((32 : UInt8).toNat : Int) = 32 := rfl
          rw [e32] at hnx
          go_wp2_with fail
          refine hn0.out.mono ?_
          rintro e w' ⟨rfl, hpost⟩
          have HP := Lib.hid hpost; clear hpost
          go_wp2_with fail
          refine bodyPost_ret (v := .tuple #[]) (results_none rfl _ _ _) rfl ?_
          refine ⟨rfl, fun hx => ?_, fun n' word' hx => ?_⟩
          · have h1 := HF2.out
            rw [hx] at h1; cases h1
          · have h1 := HF2.out
            rw [hx] at h1
            simp only [Option.some.injEq, Prod.mk.injEq] at h1
            obtain ⟨rfl, rfl⟩ := h1
            exact HP.out
      · rw [if_neg hc] at hf
        have HF2 := Lib.hid hf; clear hf
        have hc2 : ((c.toNat : Int) != 32) = true := by
          rw [bne_iff_ne]
          intro h
          apply hc
          apply UInt8.toNat_inj.1
          show c.toNat = 32
          omega
        have hcn := mk_snoc word c
        have hws : word.length < 1000 := by omega
        clear hc hno hyes ha
        go_wp2_with fail
        go_roundw
        case rel => exact ⟨pos + 1, n, word ++ [c], rfl, by omega, rfl, rfl, by omega, by simp; omega, HF2⟩
        case measure => simp; omega
    · have hnx : ∀ ty, (Instr.next (.pointer (some ⟨w.heap.size, 0, none⟩)) true ty).run Tryd.prog (w.iter S pos) = .ok (.tuple #[.bool false]) (w.iter S pos) := fun ty => run_next_end w S pos ty (by omega)
      have hf := HF.out
      rw [List.drop_eq_nil_of_le (by rw [words_size]; omega), findW] at hf
      have HF2 := Lib.hid hf; clear hf hno hyes
      go_wp2_with fail
      go_end0
      refine ⟨rfl, fun _ => tw, fun n' word' hx => ?_⟩
      have h1 := HF2.out
      rw [hx] at h1; cases h1

set_option maxRecDepth 100000 in
set_option maxHeartbeats 2000000 in
theorem code_Name (op : Int) (w : World) :
    Calls Tryd.prog 56 #[.int .i64 op] w fun e w' => e = .returned (.string ⟨(nmAt op).toArray⟩) ∧ Tch [] w w' := by
  go_enter Tryd.func56, Tryd.ntmps56
  go_wp2_with fail
  have hfw := findW_op op
  generalize hW : (w.alloc (Obj.cells #[Value.int IntKind.i64 op] 3)).alloc (Obj.cells #[Value.string (ByteArray.mk #[])] 9) = W
  have tW : Tch [] w W := by rw [← hW]; exact ((Tch.refl [] w).alloc _).alloc _
  have ca : W.cell? ⟨w.heap.size, 0, none⟩ = some (.int .i64 op) := by rw [← hW]; simp [go_sem, World.cell?_alloc_past]
  have cb : W.cell? ⟨w.heap.size + 1, 0, none⟩ = some (.string ⟨#[]⟩) := by rw [← hW]; simp [go_sem]
  have fb : W.frozen? ⟨w.heap.size + 1, 0, none⟩ = false := by rw [← hW]; simp [go_sem]
  have hsz : W.heap.size = w.heap.size + 2 := by rw [← hW]; simp
  clear hW
  refine (code_split_Name W (.pointer (some ⟨w.heap.size, 0, none⟩)) (.pointer (some ⟨w.heap.size + 1, 0, none⟩)) (fun k _ => decide ((k : Int) = op)) (fun k word w' => w'.cell? ⟨w.heap.size + 1, 0, none⟩ = some (.string ⟨word.toArray⟩) ∧ Tch [] w w') ?_ ?_).mono ?_
  · intro n word wx hst ht
    have h1 : (((n : Int)) == op) = false := by simpa using hst
    exact Name1_no _ op _ _ _ _ h1 (by rw [ht.cell (by show w.heap.size < _; omega) (by simp)]; exact ca)
  · intro n word wx hst ht
    have h1 : ((n : Int)) = op := by simpa using hst
    rw [h1]
    refine (Name1_yes op _ _ _ ⟨#[]⟩ wx (by rw [ht.cell (by show w.heap.size < _; omega) (by simp)]; exact ca) (by rw [ht.cell (by show w.heap.size + 1 < _; omega) (by simp)]; exact cb) (by rw [ht.frozen (by show w.heap.size + 1 < _; omega) (by simp)]; exact fb) (by omega)).mono ?_
    rintro e w' ⟨rfl, rfl⟩
    have cb' : wx.cell? ⟨w.heap.size + 1, 0, none⟩ = some (.string ⟨#[]⟩) := by rw [ht.cell (by show w.heap.size + 1 < _; omega) (by simp)]; exact cb
    exact ⟨rfl, by simp [cb', go_sem], (tW.then ht).setCell (.inr (by show w.heap.size ≤ w.heap.size + 1; omega)) _⟩
  · rintro e w' ⟨rfl, h1, h2⟩
    rw [hfw] at h1 h2
    by_cases hop : 1 ≤ op ∧ op ≤ 39
    · rw [if_pos hop] at h2
      obtain ⟨c1, t1⟩ := h2 _ _ rfl
      clear h1 h2 hfw ca cb fb
      go_wp2_with fail
      go_ret
      exact ⟨rfl, t1⟩
    · rw [if_neg hop] at h1
      have t1 := h1 rfl
      have c1 : w'.cell? ⟨w.heap.size + 1, 0, none⟩ = some (.string ⟨#[]⟩) := by rw [t1.cell (by show w.heap.size + 1 < _; omega) (by simp)]; exact cb
      have hn : nmAt op = [] := (nmAt_nil op).2 hop
      clear h1 h2 hfw ca cb fb
      have HN := Lib.hid hn; clear hn
      go_wp2_with fail
      go_ret
      exact ⟨by rw [HN.out]; rfl, tW.then t1⟩
theorem Op1_no (n : Int) (word s : ByteArray) (a b : Nat) (w : World) (h : (word.toList == s.toList) = false) (ha : w.cell? ⟨a, 0, none⟩ = some (.string s)) :
    Calls Tryd.prog 92 #[.int .i64 n, .string word, .pointer (some ⟨a, 0, none⟩), .pointer (some ⟨b, 0, none⟩)] w fun e w' => e = .returned (.bool false) ∧ w = w' := by
  go_enter Tryd.func92, Tryd.ntmps92
  go_wp2
  go_ret
  exact ⟨rfl, rfl⟩
theorem Op1_yes (n : Int) (word : ByteArray) (a b : Nat) (u : Int) (w : World) (ha : w.cell? ⟨a, 0, none⟩ = some (.string word)) (hb : w.cell? ⟨b, 0, none⟩ = some (.int .i64 u)) (hf : w.frozen? ⟨b, 0, none⟩ = false) (hab : a ≠ b) :
    Calls Tryd.prog 92 #[.int .i64 n, .string word, .pointer (some ⟨a, 0, none⟩), .pointer (some ⟨b, 0, none⟩)] w fun e w' => e = .returned (.bool true) ∧ w' = w.setCell ⟨b, 0, none⟩ (.int .i64 n) := by
  go_enter Tryd.func92, Tryd.ntmps92
  go_wp2
  go_ret
  exact ⟨rfl, rfl⟩
theorem tol (l : List UInt8) : (ByteArray.mk l.toArray).toList = l := by rw [Go.ByteArray.toList_eq]
set_option maxRecDepth 100000 in
set_option maxHeartbeats 2000000 in
theorem code_Op (s : List UInt8) (w : World) :
    Calls Tryd.prog 65 #[.string ⟨s.toArray⟩] w fun e w' => e = .returned (.int .i64 (opAt s)) ∧ Tch [] w w' := by
  go_enter Tryd.func65, Tryd.ntmps65
  go_wp2_with fail
  have hfw := findW_name s
  generalize hW : (w.alloc (Obj.cells #[Value.string (ByteArray.mk s.toArray)] 9)).alloc (Obj.cells #[Value.int IntKind.i64 0] 3) = W
  have tW : Tch [] w W := by rw [← hW]; exact ((Tch.refl [] w).alloc _).alloc _
  have ca : W.cell? ⟨w.heap.size, 0, none⟩ = some (.string ⟨s.toArray⟩) := by rw [← hW]; simp [go_sem, World.cell?_alloc_past]
  have cb : W.cell? ⟨w.heap.size + 1, 0, none⟩ = some (.int .i64 0) := by rw [← hW]; simp [go_sem]
  have fb : W.frozen? ⟨w.heap.size + 1, 0, none⟩ = false := by rw [← hW]; simp [go_sem]
  have hsz : W.heap.size = w.heap.size + 2 := by rw [← hW]; simp
  clear hW
  refine (code_split_Op W (.pointer (some ⟨w.heap.size, 0, none⟩)) (.pointer (some ⟨w.heap.size + 1, 0, none⟩)) (fun _ v => v == s) (fun k word w' => w'.cell? ⟨w.heap.size + 1, 0, none⟩ = some (.int .i64 k) ∧ Tch [] w w') ?_ ?_).mono ?_
  · intro n word wx hst ht
    exact Op1_no _ _ ⟨s.toArray⟩ _ _ _ (by rw [tol, tol]; exact hst) (by rw [ht.cell (by show w.heap.size < _; omega) (by simp)]; exact ca)
  · intro n word wx hst ht
    obtain rfl : word = s := by simpa using hst
    refine (Op1_yes n _ _ _ 0 wx (by rw [ht.cell (by show w.heap.size < _; omega) (by simp)]; exact ca) (by rw [ht.cell (by show w.heap.size + 1 < _; omega) (by simp)]; exact cb) (by rw [ht.frozen (by show w.heap.size + 1 < _; omega) (by simp)]; exact fb) (by omega)).mono ?_
    rintro e w' ⟨rfl, rfl⟩
    have cb' : wx.cell? ⟨w.heap.size + 1, 0, none⟩ = some (.int .i64 0) := by rw [ht.cell (by show w.heap.size + 1 < _; omega) (by simp)]; exact cb
    exact ⟨rfl, by simp [cb', go_sem], (tW.then ht).setCell (.inr (by show w.heap.size ≤ w.heap.size + 1; omega)) _⟩
  · rintro e w' ⟨rfl, h1, h2⟩
    rw [hfw] at h1 h2
    have ho : opAt s = match firstW (fun _ w => w == s) nmTab 1 with | some (n, _) => (n : Int) | none => 0 := rfl
    cases hf : firstW (fun _ w => w == s) nmTab 1 with
    | some q =>
      obtain ⟨n, word⟩ := q
      rw [hf] at ho
      obtain ⟨c1, t1⟩ := h2 _ _ hf
      clear h1 h2 hfw ca cb fb hf
      have HO := Lib.hid ho; clear ho
      go_wp2_with fail
      go_ret
      exact ⟨by rw [HO.out]; rfl, t1⟩
    | none =>
      rw [hf] at ho
      have t1 := h1 hf
      have c1 : w'.cell? ⟨w.heap.size + 1, 0, none⟩ = some (.int .i64 0) := by rw [t1.cell (by show w.heap.size + 1 < _; omega) (by simp)]; exact cb
      clear h1 h2 hfw ca cb fb hf
      have HO := Lib.hid ho; clear ho
      go_wp2_with fail
      go_ret
      exact ⟨by rw [HO.out]; rfl, tW.then t1⟩
end Go.Proofs.YteebapopeaafhaaDoor
namespace Go.Proofs.YteebapopeaafhaaDoor
open Go.RowKit Go.Tcn
set_option linter.unusedVariables false
set_option linter.unusedSimpArgs false

set_option maxHeartbeats 2000000 in
theorem code_Operands (op : Int) (w : World) : Calls Tryd.prog 57 #[.int .i64 op] w fun e w' => e = .returned (.int .i64 (opndN op)) ∧ w = w' := by
  go_enter Tryd.func57, Tryd.ntmps57
  go_wp2
  all_goals
    go_ret
    refine ⟨?_, rfl⟩
    simp only [beq_iff_eq, beq_eq_false_iff_ne, ne_eq] at *
    simp_all [opndN]

set_option maxHeartbeats 2000000 in
theorem code_limits (op : Int) (w : World) : Calls Tryd.prog 99 #[.int .i64 op] w fun e w' => e = .returned (.tuple #[.int .i64 (limLo op), .int .i64 (limHi op)]) ∧ w = w' := by
  go_enter Tryd.func99, Tryd.ntmps99
  go_wp2
  all_goals
    go_ret2
    refine ⟨?_, rfl⟩
    simp only [beq_iff_eq, beq_eq_false_iff_ne, ne_eq] at *
    simp_all [limLo, limHi]
theorem andNot4 (b : Int) (h0 : 0 ≤ b) (h1 : b ≤ 9223372036854775807) : bits .andNot .i64 b 4 ≤ 2 ↔ (b ≤ 2 ∨ 4 ≤ b ∧ b ≤ 6) := by
  obtain ⟨n, rfl⟩ := Int.eq_ofNat_of_zero_le h0
  have hn : n < 9223372036854775808 := by omega
  have e : bits .andNot .i64 (n : Int) 4 = ((n &&& 18446744073709551611 : Nat) : Int) := by
    have hx : n &&& 18446744073709551611 ≤ n := Nat.and_le_left
    show IntKind.i64.wrap ((BitVec.ofInt 64 (n : Int) &&& ~~~BitVec.ofInt 64 (4 : Int)).toNat : Int) = _
    have e1 : (BitVec.ofInt 64 (n : Int)).toNat = n := by rw [BitVec.ofInt_natCast, BitVec.toNat_ofNat]; exact Nat.mod_eq_of_lt (by omega)
    have e2 : (~~~BitVec.ofInt 64 (4 : Int)).toNat = 18446744073709551611 := by decide
    rw [BitVec.toNat_and, e1, e2]
    exact IntWalk.i64_in _ (by omega)
  rw [e]
  by_cases h8 : n < 8
  · have h : n = 0 ∨ n = 1 ∨ n = 2 ∨ n = 3 ∨ n = 4 ∨ n = 5 ∨ n = 6 ∨ n = 7 := by omega
    rcases h with rfl | rfl | rfl | rfl | rfl | rfl | rfl | rfl <;> decide
  · have hs : (n &&& 18446744073709551611) / 8 = n / 8 := by
      have h3 := Nat.shiftRight_and_distrib (a := n) (b := 18446744073709551611) (i := 3)
      rw [Nat.shiftRight_eq_div_pow, Nat.shiftRight_eq_div_pow, Nat.shiftRight_eq_div_pow] at h3
      have e4 : (18446744073709551611 : Nat) / 2 ^ 3 = 2 ^ 61 - 1 := by decide
      rw [e4, Nat.and_two_pow_sub_one_eq_mod] at h3
      have e5 : (2 : Nat) ^ 3 = 8 := rfl
      rw [e5] at h3
      rw [h3]
      exact Nat.mod_eq_of_lt (by omega)
    constructor
    · intro h; omega
    · intro h; omega
set_option maxRecDepth 100000 in
set_option maxHeartbeats 4000000 in
theorem code_Right (op a b : Int) (w : World) (hb : -9223372036854775808 ≤ b ∧ b ≤ 9223372036854775807) : Calls Tryd.prog 77 #[.agg #[.int .i64 op, .int .i64 a, .int .i64 b]] w fun e w' => e = .returned (.bool (rightI op a b)) ∧ Tch [] w w' := by
  have hr : rightI op a b = decide (1 ≤ op ∧ op ≤ 39 ∧ limLo op ≤ a ∧ a ≤ limHi op ∧ (if op = 27 then (0 ≤ b ∧ b ≤ 2 ∨ 4 ≤ b ∧ b ≤ 6) else b = 0)) := rfl
  generalize rightI op a b = R at *
  have HR := Lib.hid hr; clear hr
  have hl := fun w => code_limits op w
  generalize limLo op = lo at *
  generalize limHi op = hi at *
  have tw : Tch [] w (w.alloc (.cells #[.int .i64 op, .int .i64 a, .int .i64 b] 54)) := (Tch.refl [] w).alloc _
  have hrc : (op < 1 ∧ R = false) ∨ (1 ≤ op ∧ 39 < op ∧ R = false) ∨ (1 ≤ op ∧ op ≤ 39 ∧ a < lo ∧ R = false) ∨ (1 ≤ op ∧ op ≤ 39 ∧ lo ≤ a ∧ hi < a ∧ R = false) ∨ (1 ≤ op ∧ op ≤ 39 ∧ lo ≤ a ∧ a ≤ hi ∧ op = 27 ∧ b < 0 ∧ R = false) ∨ (1 ≤ op ∧ op ≤ 39 ∧ lo ≤ a ∧ a ≤ hi ∧ op = 27 ∧ 0 ≤ b ∧ R = decide (bits .andNot .i64 b 4 ≤ 2)) ∨ (1 ≤ op ∧ op ≤ 39 ∧ lo ≤ a ∧ a ≤ hi ∧ op ≠ 27 ∧ R = (b == 0)) := by
    have h := HR.out
    by_cases h1 : 1 ≤ op
    · by_cases h2 : op ≤ 39
      · by_cases h3 : lo ≤ a
        · by_cases h4 : a ≤ hi
          · by_cases h5 : op = 27
            · by_cases h6 : 0 ≤ b
              · have h7 := andNot4 b h6 hb.2
                refine .inr (.inr (.inr (.inr (.inr (.inl ⟨h1, h2, h3, h4, h5, h6, ?_⟩)))))
                rw [h]
                simp only [h1, h2, h3, h4, h5, h6, if_true, true_and, h7]
                simp
              · refine .inr (.inr (.inr (.inr (.inl ⟨h1, h2, h3, h4, h5, by omega, ?_⟩))))
                rw [h]
                simp [h5]
                omega
            · refine .inr (.inr (.inr (.inr (.inr (.inr ⟨h1, h2, h3, h4, h5, ?_⟩)))))
              rw [h]
              simp only [h1, h2, h3, h4, h5, if_false, true_and]
              rfl
          · refine .inr (.inr (.inr (.inl ⟨h1, h2, h3, by omega, by rw [h]; simp; omega⟩)))
        · refine .inr (.inr (.inl ⟨h1, h2, by omega, by rw [h]; simp; omega⟩))
      · refine .inr (.inl ⟨h1, by omega, by rw [h]; simp; omega⟩)
    · refine .inl ⟨by omega, by rw [h]; simp; omega⟩
  clear HR
  rcases hrc with ⟨h1, rfl⟩ | ⟨h1, h2, rfl⟩ | ⟨h1, h2, h3, rfl⟩ | ⟨h1, h2, h3, h4, rfl⟩ | ⟨h1, h2, h3, h4, h5, h6, rfl⟩ | ⟨h1, h2, h3, h4, h5, h6, hR⟩ | ⟨h1, h2, h3, h4, h5, hR⟩
  all_goals
    first | (have HR := Lib.hid hR; clear hR) | skip
    first | (have h5b := beq_iff_eq.2 h5; clear h5) | (have h5b := beq_eq_false_iff_ne.2 h5; clear h5) | skip
    go_enter Tryd.func77, Tryd.ntmps77
    go_wp2_with (go_at_call 99; refine (hl _).mono ?_; rintro e w' ⟨rfl, rfl⟩)
    go_ret
    refine ⟨?_, tw⟩
    first | rfl | (rw [HR.out]; rfl)
end Go.Proofs.YteebapopeaafhaaDoor
namespace Go.Proofs.YteebapopeaafhaaDoor
open Go.RowKit Go.Tcn
set_option linter.unusedVariables false
set_option linter.unusedSimpArgs false
end Go.Proofs.YteebapopeaafhaaDoor
namespace Go.Proofs.YteebapopeaafhaaDoor
open Go.RowKit Go.Tcn
set_option linter.unusedVariables false
set_option linter.unusedSimpArgs false
end Go.Proofs.YteebapopeaafhaaDoor
namespace Go.Proofs.YteebapopeaafhaaDoor
open Go.RowKit Go.Tcn
set_option linter.unusedVariables false
set_option linter.unusedSimpArgs false

end Go.Proofs.YteebapopeaafhaaDoor
