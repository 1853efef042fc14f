/-
  CONTRACTS: Read of code and taciturnref1, all of it; an instruction of raw numbers. Conditions: the reader's bytes lie in blocks that nobody turns.
  CONTRACTS: chapter 3's example. Conditions: none.
  PLAIN LAW: what is laid is taken again: bytes as lists of numbers. Conditions: none.
  PLAIN LAW: what is laid is read back. Conditions: none.
  PLAIN LAWS: applets' bytes: which may be, how they are laid, how they are read back. Conditions: none.
-/
import Derived.Test.YtpabkjjonbhdeaaDoorHRead
import Derived.Test.YtpabkjjonbhdeaaDoorHHand
import Derived.StillTailTactics
import Derived.Test.YtpabkjjonbhdeaaDoorHRd
import Derived.Test.YtpabkjjonbhdeaaDoorHImi
namespace Go.Proofs.YtpabkjjonbhdeaaDoor
open Go.RowKit Go.Tcn
set_option linter.unusedVariables false
set_option linter.unusedSimpArgs false

/-- What holds of instr's variables: gq: the raw ones; g3: the instruction. -/
def InR (w : World) (gq g2 g3 : Nat) (o a b c op : Int) (wz : World) : Prop := ∃ x y, I6 x ∧ I6 y ∧ By wz g3 (.int .i64 op) (.int .i64 x) (.int .i64 y) ∧ By wz g2 (.int .i64 0) (.int .i64 0) (.int .i64 0) ∧ Bq wz gq (.int .i64 o) (.int .i64 a) (.int .i64 b) (.int .i64 c) ∧ Tch [] w wz
theorem InR.set1 {w wz : World} {gq g2 g3 : Nat} {o a b c op : Int} (h : InR w gq g2 g3 o a b c op wz) (h2 : gq ≠ g3) (h3 : g2 ≠ g3) (h4 : w.heap.size ≤ g3) (x : Int) (hx : I6 x) : InR w gq g2 g3 o a b c op (wz.setCell ⟨g3, 1, none⟩ (.int .i64 x)) := by
  obtain ⟨x', y, hx', hy, k1, k2, k3, t⟩ := h
  have tt := (Tch.refl [g3] wz).setCell (p := ⟨g3, 1, none⟩) (by simp) (.int .i64 x)
  exact ⟨x, y, hx, hy, k1.set1 _, k2.tch tt (by simpa using h3), k3.tch tt (by simpa using h2), t.setCell (.inr h4) _⟩
theorem InR.set2 {w wz : World} {gq g2 g3 : Nat} {o a b c op : Int} (h : InR w gq g2 g3 o a b c op wz) (h2 : gq ≠ g3) (h3 : g2 ≠ g3) (h4 : w.heap.size ≤ g3) (y : Int) (hy : I6 y) : InR w gq g2 g3 o a b c op (wz.setCell ⟨g3, 2, none⟩ (.int .i64 y)) := by
  obtain ⟨x, y', hx, hy', k1, k2, k3, t⟩ := h
  have tt := (Tch.refl [g3] wz).setCell (p := ⟨g3, 2, none⟩) (by simp) (.int .i64 y)
  exact ⟨x, y, hx, hy, k1.set2 _, k2.tch tt (by simpa using h3), k3.tch tt (by simpa using h2), t.setCell (.inr h4) _⟩
theorem InR.drew {w wz : World} {gq g2 g3 : Nat} {o a b c op : Int} (h : InR w gq g2 g3 o a b c op wz) : InR w gq g2 g3 o a b c op wz.drew := by
  obtain ⟨x, y, hx, hy, k1, k2, k3, t⟩ := h
  have tt := (Tch.refl [] wz).drew
  exact ⟨x, y, hx, hy, k1.tch tt (by simp), k2.tch tt (by simp), k3.tch tt (by simp), t.drew⟩
theorem rem23 (c : Int) : -23 < c.tmod 23 ∧ c.tmod 23 < 23 := ⟨Int.lt_tmod_of_pos c (by omega), Int.tmod_lt_of_pos c (by omega)⟩
theorem rem29 (c : Int) : -29 < c.tmod 29 ∧ c.tmod 29 < 29 := ⟨Int.lt_tmod_of_pos c (by omega), Int.tmod_lt_of_pos c (by omega)⟩
end Go.Proofs.YtpabkjjonbhdeaaDoor
namespace Go.Proofs.YtpabkjjonbhdeaaDoor
open Go.RowKit Go.Tcn
set_option linter.unusedVariables false
set_option linter.unusedSimpArgs false
end Go.Proofs.YtpabkjjonbhdeaaDoor
namespace Go.Proofs.YtpabkjjonbhdeaaDoor
open Go.Tcn
set_option linter.unusedVariables false
set_option linter.unusedSimpArgs false
/-- What a step lays. -/
def encSt (x : Int × Int × List Int) : List Int :=
  if x.1 % 4 = 0 then putN (x.2.1 % 256) 1 else if x.1 % 4 = 1 then putN (x.2.1 % 65536) 2 else if x.1 % 4 = 2 then putN (s32 x.2.1) 4 else putN ((x.2.2.take 255).length : Int) 1 ++ x.2.2.take 255
theorem encSt_0 {x : Int × Int × List Int} (h : x.1 % 4 = 0) : encSt x = putN (x.2.1 % 256) 1 := by simp [encSt, h]
theorem encSt_1 {x : Int × Int × List Int} (h : x.1 % 4 = 1) : encSt x = putN (x.2.1 % 65536) 2 := by simp [encSt, h]
theorem encSt_2 {x : Int × Int × List Int} (h : x.1 % 4 = 2) : encSt x = putN (s32 x.2.1) 4 := by simp [encSt, h]
theorem encSt_3 {x : Int × Int × List Int} (h : x.1 % 4 = 3) : encSt x = putN ((x.2.2.take 255).length : Int) 1 ++ x.2.2.take 255 := by simp [encSt, h]
theorem encSt_length (x : Int × Int × List Int) : (encSt x).length ≤ 256 := by
  unfold encSt
  split
  · simp [putN_length]
  · split
    · simp [putN_length]
    · split
      · simp [putN_length]
      · simp [putN_length]; omega
theorem encSt_byt {x : Int × Int × List Int} (h : Byt x.2.2) : Byt (encSt x) := by
  unfold encSt
  split
  · exact byt_putN _ _
  · split
    · exact byt_putN _ _
    · split
      · exact byt_putN _ _
      · exact (byt_putN _ _).append (h.take _)
def encAll (ls : List (Int × Int × List Int)) : List Int := ls.flatMap encSt
theorem encAll_cons (x : Int × Int × List Int) (ls : List (Int × Int × List Int)) : encAll (x :: ls) = encSt x ++ encAll ls := by simp [encAll]
theorem encAll_snoc (x : Int × Int × List Int) (ls : List (Int × Int × List Int)) : encAll (ls ++ [x]) = encAll ls ++ encSt x := by simp [encAll]
theorem encAll_length (ls : List (Int × Int × List Int)) : (encAll ls).length ≤ 256 * ls.length := by
  induction ls with
  | nil => simp [encAll]
  | cons x ls ih => rw [encAll_cons]; have := encSt_length x; simp; omega
theorem encAll_byt {ls : List (Int × Int × List Int)} (h : ∀ x ∈ ls, Byt x.2.2) : Byt (encAll ls) := by
  intro y hy
  simp only [encAll, List.mem_flatMap] at hy
  obtain ⟨x, hx, hy⟩ := hy
  exact encSt_byt (h x hx) y hy
theorem rd_app (a rest : List Int) (n : Int) (h : (a.length : Int) = n) : rdOk (a ++ rest) false n = true ∧ rdOut (a ++ rest) false n = a ∧ rdRest (a ++ rest) false n = rest := by
  have hok : rdOk (a ++ rest) false n = true := by simp [rdOk]; omega
  have hn : n.toNat = a.length := by omega
  refine ⟨hok, ?_, ?_⟩
  · simp [rdOut, hok, hn]
  · simp [rdRest, hok, hn]
theorem beN_put1 (v : Int) : beN (putN v 1) = v % 256 := by simp [putN, beN]
theorem beN_put2 (v : Int) : beN (putN v 2) = v % 65536 := by simp [putN, beN]; omega
theorem beN_put4 (v : Int) : beN (putN v 4) = v % 4294967296 := by simp [putN, beN]; omega
theorem back_0 (n : Int) (rest : List Int) : beN (rdOut (putN (n % 256) 1 ++ rest) false 1) = n % 256 ∧ rdRest (putN (n % 256) 1 ++ rest) false 1 = rest ∧ (!rdOk (putN (n % 256) 1 ++ rest) false 1) = false := by
  obtain ⟨h1, h2, h3⟩ := rd_app (putN (n % 256) 1) rest 1 (by simp [putN_length])
  refine ⟨by rw [h2, beN_put1]; omega, h3, by rw [h1]; rfl⟩
theorem back_1 (n : Int) (rest : List Int) : beN (rdOut (putN (n % 65536) 2 ++ rest) false 2) = n % 65536 ∧ rdRest (putN (n % 65536) 2 ++ rest) false 2 = rest ∧ (!rdOk (putN (n % 65536) 2 ++ rest) false 2) = false := by
  obtain ⟨h1, h2, h3⟩ := rd_app (putN (n % 65536) 2) rest 2 (by simp [putN_length])
  refine ⟨by rw [h2, beN_put2]; omega, h3, by rw [h1]; rfl⟩
theorem back_2 (n : Int) (rest : List Int) : s32 (beN (rdOut (putN (s32 n) 4 ++ rest) false 4)) = s32 n ∧ rdRest (putN (s32 n) 4 ++ rest) false 4 = rest ∧ (!rdOk (putN (s32 n) 4 ++ rest) false 4) = false := by
  obtain ⟨h1, h2, h3⟩ := rd_app (putN (s32 n) 4) rest 4 (by simp [putN_length])
  refine ⟨by rw [h2, beN_put4]; unfold s32; omega, h3, by rw [h1]; rfl⟩
theorem back_3 (b rest : List Int) (hb : b.length ≤ 255) : shOut (putN (b.length : Int) 1 ++ b ++ rest) false = b ∧ shRest (putN (b.length : Int) 1 ++ b ++ rest) false = rest ∧ (!shOk (putN (b.length : Int) 1 ++ b ++ rest) false) = false := by
  rw [List.append_assoc]
  obtain ⟨h1, h2, h3⟩ := rd_app (putN (b.length : Int) 1) (b ++ rest) 1 (by simp [putN_length])
  have e : beN (putN (b.length : Int) 1) = b.length := by rw [beN_put1]; omega
  obtain ⟨k1, k2, k3⟩ := rd_app b rest b.length rfl
  unfold shOut shRest shOk
  rw [h1, h2, h3, e]
  exact ⟨k2, k3, by simpa using k1⟩
end Go.Proofs.YtpabkjjonbhdeaaDoor
namespace Go.Proofs.YtpabkjjonbhdeaaDoor
open Go.RowKit Go.Tcn
set_option linter.unusedVariables false
set_option linter.unusedSimpArgs false
theorem tk_1 (v : Int) (r : List Int) : tk (putN v 1 ++ r) false 1 = (v % 256, r, false) := by
  obtain ⟨h1, h2, h3⟩ := rd_app (putN v 1) r 1 (by simp [putN_length])
  unfold tk; rw [h1, h2, h3, beN_put1]; rfl
theorem tk_2 (v : Int) (r : List Int) : tk (putN v 2 ++ r) false 2 = (v % 65536, r, false) := by
  obtain ⟨h1, h2, h3⟩ := rd_app (putN v 2) r 2 (by simp [putN_length])
  unfold tk; rw [h1, h2, h3, beN_put2]; rfl
theorem tk_4 (v : Int) (r : List Int) : tk (putN v 4 ++ r) false 4 = (v % 4294967296, r, false) := by
  obtain ⟨h1, h2, h3⟩ := rd_app (putN v 4) r 4 (by simp [putN_length])
  unfold tk; rw [h1, h2, h3, beN_put4]; rfl
theorem readI_ahead (op a b : Int) (ho : 1 ≤ op ∧ op ≤ 39) (hR : rightI op a b = true) (m r : List Int) (e : opsI op m false = ((a, b), r, false)) : readI (putN op 1 ++ m) false = ((op, a, b), 0, r, false) := by
  obtain ⟨h1, h2, h3⟩ := rd_app (putN op 1) m 1 (by simp [putN_length])
  rw [readI_ok (putN op 1 ++ m) false h1 op (by rw [h2, beN_put1]; omega) ho a b r false (by rw [h3]; exact e), hR]
  simp
theorem rightI_facts (op a b : Int) (h : rightI op a b = true) : 1 ≤ op ∧ op ≤ 39 ∧ limLo op ≤ a ∧ a ≤ limHi op ∧ (op = 27 → 0 ≤ b ∧ b ≤ 6) ∧ (op ≠ 27 → b = 0) := by
  unfold rightI at h
  simp only [decide_eq_true_eq] at h
  obtain ⟨h1, h2, h3, h4, h5⟩ := h
  refine ⟨h1, h2, h3, h4, fun e => ?_, fun e => ?_⟩
  · rw [if_pos e] at h5; omega
  · rw [if_neg e] at h5; exact h5
theorem limHi_le (op : Int) (h : op ≠ 1) : 0 ≤ limLo op ∧ limHi op ≤ 119 := by
  unfold limLo limHi
  rw [if_neg h, if_neg h]
  constructor <;> (repeat' split) <;> omega
theorem limHi_zero (op : Int) (h : op ≠ 1 ∧ op ≠ 23 ∧ op ≠ 24 ∧ op ≠ 27) (ho : opndN op ≠ 1) : limLo op = 0 ∧ limHi op = 0 := by
  unfold opndN at ho
  rw [if_neg (by omega)] at ho
  split at ho
  · omega
  · rename_i h2
    unfold limLo limHi
    constructor
    · (repeat rw [if_neg (by omega)])
    · (repeat rw [if_neg (by omega)])
theorem readI_enc (op a b : Int) (h : rightI op a b = true) (r : List Int) : readI (encI op a b ++ r) false = ((op, a, b), 0, r, false) := by
  obtain ⟨h1, h2, h3, h4, h5, h6⟩ := rightI_facts op a b h
  by_cases k1 : op = 1
  · subst k1
    have hb := h6 (by omega)
    subst hb
    have e3 : limLo 1 = -2147483648 := rfl
    have e4 : limHi 1 = 2147483647 := rfl
    rw [encI_1, List.append_assoc]
    refine readI_ahead _ _ _ ⟨h1, h2⟩ h _ _ ?_
    unfold opsI
    rw [if_pos rfl, tk_4]
    have : s32 (a % 4294967296) = a := by unfold s32; omega
    rw [this]
  have hlim := limHi_le op k1
  by_cases k2 : op = 23
  · subst k2
    have hb := h6 (by omega)
    subst hb
    rw [encI_23, List.append_assoc]
    refine readI_ahead _ _ _ ⟨h1, h2⟩ h _ _ ?_
    unfold opsI
    rw [if_neg (by omega), if_pos (by omega), tk_2]
    have : a % 65536 = a := by omega
    rw [this]
  by_cases k3 : op = 24
  · subst k3
    have hb := h6 (by omega)
    subst hb
    rw [encI_24, List.append_assoc]
    refine readI_ahead _ _ _ ⟨h1, h2⟩ h _ _ ?_
    unfold opsI
    rw [if_neg (by omega), if_pos (by omega), tk_2]
    have : a % 65536 = a := by omega
    rw [this]
  by_cases k4 : op = 27
  · subst k4
    have hb := h5 rfl
    rw [encI_27, List.append_assoc, List.append_assoc]
    refine readI_ahead _ _ _ ⟨h1, h2⟩ h _ _ ?_
    unfold opsI
    rw [if_neg (by omega), if_neg (by omega), if_pos rfl, tk_1, tk_1]
    have e1 : a % 256 = a := by omega
    have e2 : b % 256 = b := by omega
    rw [e1, e2]
  have hb := h6 k4
  subst hb
  by_cases k5 : opndN op = 1
  · rw [encI_one op a 0 ⟨k1, k2, k3, k4⟩ k5, List.append_assoc]
    refine readI_ahead _ _ _ ⟨h1, h2⟩ h _ _ ?_
    unfold opsI
    rw [if_neg k1, if_neg (by omega), if_neg k4, if_pos k5, tk_1]
    have : a % 256 = a := by omega
    rw [this]
  · rw [encI_zero op a 0 ⟨k1, k2, k3, k4⟩ k5]
    refine readI_ahead _ _ _ ⟨h1, h2⟩ h _ _ ?_
    unfold opsI
    rw [if_neg k1, if_neg (by omega), if_neg k4, if_neg k5]
    have hz := limHi_zero op ⟨k1, k2, k3, k4⟩ k5
    have : a = 0 := by omega
    rw [this]
end Go.Proofs.YtpabkjjonbhdeaaDoor
namespace Go.Tcn
open Go.RowKit
set_option linter.unusedVariables false
set_option linter.unusedSimpArgs false
def insB (x : Ins) : Bool := rightI x.op x.a x.b
def mthB (m : Mth) : Bool := kindsB m.params 4 && resB m.result && kindsB m.locals (10 - m.params.length) && decide (1 ≤ m.code.length ∧ m.code.length ≤ 120) && m.code.all insB
def firstB : List Mth → Bool
  | [] => false
  | m :: _ => decide (m.params.length = 0) && decide (m.result = 0)
def expB (n : Nat) (x : Int) : Bool := decide (0 ≤ x ∧ x < n)
/-- May an applet be? -/
def imgB (i : Img) : Bool := nameB i.name && kindsB i.fields 8 && decide (i.imports.length ≤ 4) && i.imports.all impB && decide (1 ≤ i.methods.length ∧ i.methods.length ≤ 8) && i.methods.all mthB && firstB i.methods && decide (i.exports.length ≤ 4) && i.exports.all (expB i.methods.length)
def nums (l : List UInt8) : List Int := l.map (fun b => (b.toNat : Int))
def unnums (l : List Int) : List UInt8 := l.map (fun n => UInt8.ofNat n.toNat)
theorem strOfNums_unnums (l : List Int) : strOfNums l = ⟨(unnums l).toArray⟩ := rfl
theorem nums_length (l : List UInt8) : (nums l).length = l.length := by simp [nums]
theorem unnums_length (l : List Int) : (unnums l).length = l.length := by simp [unnums]
theorem nums_byt (l : List UInt8) : Byt (nums l) := by
  intro x hx
  simp [nums] at hx
  obtain ⟨b, _, rfl⟩ := hx
  have := b.toNat_lt
  omega
theorem unnums_nums (l : List UInt8) : unnums (nums l) = l := by
  simp [nums, unnums, Function.comp_def]
theorem nums_unnums (l : List Int) (h : Byt l) : nums (unnums l) = l := by
  unfold nums unnums
  rw [List.map_map]
  conv => rhs; rw [← List.map_id l]
  refine List.map_congr_left (fun x hx => ?_)
  have := h x hx
  simp only [Function.comp_def, id]
  have e : (UInt8.ofNat x.toNat).toNat = x.toNat := by
    simp; omega
  rw [e]; omega
def encN (l : List Int) : List Int := putN l.length 1 ++ l.flatMap (fun n => putN n 1)
def encS (s : List UInt8) : List Int := putN s.length 1 ++ nums s
def encIns (x : Ins) : List Int := encI x.op x.a x.b
def encImp (x : Imp) : List Int := encS x.name ++ (putN x.exp 1 ++ (encN x.params ++ putN x.result 1))
def encMth (m : Mth) : List Int := encN m.params ++ (putN m.result 1 ++ (encN m.locals ++ (putN m.code.length 1 ++ m.code.flatMap encIns)))
def encBody (i : Img) : List Int := encS i.name ++ (encN i.fields ++ ((putN i.imports.length 1 ++ i.imports.flatMap encImp) ++ ((putN i.methods.length 1 ++ i.methods.flatMap encMth) ++ encN i.exports)))
def head5 : List Int := [84, 65, 67, 73, 1]
/-- An applet's bytes. -/
def encImg (i : Img) : List Int := head5 ++ encBody i
theorem byt_flatMap {α : Type} {en : α → List Int} {l : List α} (h : ∀ x ∈ l, Byt (en x)) : Byt (l.flatMap en) := by
  intro y hy
  rw [List.mem_flatMap] at hy
  obtain ⟨x, hx, hy⟩ := hy
  exact h x hx y hy
theorem flatMap_le {α : Type} {en : α → List Int} {l : List α} {k : Nat} (h : ∀ x ∈ l, (en x).length ≤ k) : (l.flatMap en).length ≤ l.length * k := by
  induction l with
  | nil => simp
  | cons x l ih =>
    have h1 := h x (by simp)
    have h2 := ih (fun y hy => h y (by simp [hy]))
    rw [List.flatMap_cons, List.length_append, List.length_cons, Nat.add_mul]
    omega
theorem encN_byt (l : List Int) : Byt (encN l) := (byt_putN _ _).append (byt_flatMap fun _ _ => byt_putN _ _)
theorem encS_byt (s : List UInt8) : Byt (encS s) := (byt_putN _ _).append (nums_byt s)
theorem encImp_byt (x : Imp) : Byt (encImp x) := (encS_byt _).append ((byt_putN _ _).append ((encN_byt _).append (byt_putN _ _)))
theorem encMth_byt (x : Mth) : Byt (encMth x) := (encN_byt _).append ((byt_putN _ _).append ((encN_byt _).append ((byt_putN _ _).append (byt_flatMap fun x _ => encI_byt _ _ _))))
theorem encImg_byt (i : Img) : Byt (encImg i) := by
  refine Byt.append (by intro x hx; simp [head5] at hx; omega) ?_
  exact (encS_byt _).append ((encN_byt _).append (((byt_putN _ _).append (byt_flatMap fun x _ => encImp_byt x)).append (((byt_putN _ _).append (byt_flatMap fun x _ => encMth_byt x)).append (encN_byt _))))
theorem encN_le (l : List Int) : (encN l).length = 1 + l.length := by
  have : (l.flatMap (fun n => putN n 1)).length = l.length := by
    induction l with
    | nil => rfl
    | cons x l ih => rw [List.flatMap_cons, List.length_append, ih, putN_length, List.length_cons]; omega
  unfold encN
  rw [List.length_append, this, putN_length]
theorem encS_le (s : List UInt8) : (encS s).length = 1 + s.length := by unfold encS; rw [List.length_append, putN_length, nums_length]
theorem nameB_le {s : List UInt8} (h : nameB s = true) : 1 ≤ s.length ∧ s.length ≤ 16 := by
  unfold nameB at h
  simp only [Bool.and_eq_true, decide_eq_true_eq] at h
  exact h.1.1
theorem kindsB_le {l : List Int} {m : Int} (h : kindsB l m = true) : (l.length : Int) ≤ m ∧ ∀ x ∈ l, 1 ≤ x ∧ x ≤ 4 := by
  unfold kindsB at h
  simp only [Bool.and_eq_true, decide_eq_true_eq, List.all_eq_true, kindB] at h
  exact h
theorem resB_le {x : Int} (h : resB x = true) : 0 ≤ x ∧ x ≤ 4 := by simpa [resB] using h
theorem impB_le {x : Imp} (h : impB x = true) : (1 ≤ x.name.length ∧ x.name.length ≤ 16) ∧ (0 ≤ x.exp ∧ x.exp < 4) ∧ (x.params.length ≤ 4 ∧ ∀ y ∈ x.params, 1 ≤ y ∧ y ≤ 4) ∧ (0 ≤ x.result ∧ x.result ≤ 4) := by
  unfold impB at h
  simp only [Bool.and_eq_true, decide_eq_true_eq] at h
  have h2 := kindsB_le h.1.2
  exact ⟨nameB_le h.1.1.1, h.1.1.2, ⟨by omega, h2.2⟩, resB_le h.2⟩
theorem mthB_le {m : Mth} (h : mthB m = true) : (m.params.length ≤ 4 ∧ ∀ y ∈ m.params, 1 ≤ y ∧ y ≤ 4) ∧ (0 ≤ m.result ∧ m.result ≤ 4) ∧ (m.locals.length ≤ 10 ∧ ∀ y ∈ m.locals, 1 ≤ y ∧ y ≤ 4) ∧ (1 ≤ m.code.length ∧ m.code.length ≤ 120) ∧ ∀ y ∈ m.code, rightI y.op y.a y.b = true := by
  unfold mthB at h
  simp only [Bool.and_eq_true, decide_eq_true_eq, List.all_eq_true, insB] at h
  have h1 := kindsB_le h.1.1.1.1
  have h2 := kindsB_le h.1.1.2
  exact ⟨⟨by omega, h1.2⟩, resB_le h.1.1.1.2, ⟨by omega, h2.2⟩, h.1.2, h.2⟩
theorem imgB_le {i : Img} (h : imgB i = true) : (1 ≤ i.name.length ∧ i.name.length ≤ 16) ∧ (i.fields.length ≤ 8 ∧ ∀ y ∈ i.fields, 1 ≤ y ∧ y ≤ 4) ∧ (i.imports.length ≤ 4 ∧ ∀ x ∈ i.imports, impB x = true) ∧ ((1 ≤ i.methods.length ∧ i.methods.length ≤ 8) ∧ ∀ x ∈ i.methods, mthB x = true) ∧ (i.exports.length ≤ 4 ∧ ∀ y ∈ i.exports, 0 ≤ y ∧ y < i.methods.length) := by
  unfold imgB at h
  simp only [Bool.and_eq_true, decide_eq_true_eq, List.all_eq_true, expB] at h
  obtain ⟨⟨⟨⟨⟨⟨⟨⟨h1, h2⟩, h3⟩, h4⟩, h5⟩, h6⟩, h7⟩, h8⟩, h9⟩ := h
  have h2' := kindsB_le h2
  exact ⟨nameB_le h1, ⟨by omega, h2'.2⟩, ⟨h3, h4⟩, ⟨h5, h6⟩, ⟨h8, h9⟩⟩
theorem encImp_le {x : Imp} (h : impB x = true) : (encImp x).length ≤ 30 := by
  obtain ⟨h1, _, h3, _⟩ := impB_le h
  unfold encImp
  simp only [List.length_append, encS_le, encN_le, putN_length]
  omega
theorem encMth_le {x : Mth} (h : mthB x = true) : (encMth x).length ≤ 700 := by
  obtain ⟨h1, _, h3, h4, h5⟩ := mthB_le h
  have := flatMap_le (en := encIns) (l := x.code) (k := 5) (fun y _ => (encI_length y.op y.a y.b).2)
  unfold encMth
  simp only [List.length_append, encN_le, putN_length]
  omega
theorem encImg_le {i : Img} (h : imgB i = true) : (encImg i).length ≤ 8000 := by
  obtain ⟨h1, h2, h3, h4, h5⟩ := imgB_le h
  have k1 := flatMap_le (en := encImp) (l := i.imports) (k := 30) (fun y hy => encImp_le (h3.2 y hy))
  have k2 := flatMap_le (en := encMth) (l := i.methods) (k := 700) (fun y hy => encMth_le (h4.2 y hy))
  unfold encImg encBody head5
  simp only [List.length_append, encS_le, encN_le, putN_length, List.length_cons, List.length_nil]
  omega

/-- Reading: what is taken and what is left, or an error. -/
def Par (α : Type) : Type := List Int → Except Int (α × List Int)
def Par.bind {α β : Type} (P : Par α) (Q : α → Par β) : Par β := fun l => match P l with
  | .ok (x, r) => Q x r
  | .error e => .error e
def Par.ret {α : Type} (x : α) : Par α := fun l => .ok (x, l)
def u8P : Par Int := fun l => match l with
  | [] => .error 7
  | x :: r => .ok (x, r)
def rawP (n : Nat) : Par (List Int) := fun l => if n ≤ l.length then .ok (l.take n, l.drop n) else .error 7
def repP {α : Type} (P : Par α) : Nat → Par (List α)
  | 0 => .ret []
  | n + 1 => (repP P n).bind fun xs => P.bind fun x => .ret (xs ++ [x])
def cntP {α : Type} (P : Par α) : Par (List α) := u8P.bind fun n => repP P n.toNat
def insP : Par Ins := fun l => if (readI l false).2.1 = 0 then .ok (⟨(readI l false).1.1, (readI l false).1.2.1, (readI l false).1.2.2⟩, (readI l false).2.2.1) else .error (readI l false).2.1
def strP : Par (List UInt8) := u8P.bind fun n => (rawP n.toNat).bind fun b => .ret (unnums b)
def impP : Par Imp := strP.bind fun nm => u8P.bind fun e => (cntP u8P).bind fun ps => u8P.bind fun r => .ret ⟨nm, e, ps, r⟩
def mthP : Par Mth := (cntP u8P).bind fun ps => u8P.bind fun r => (cntP u8P).bind fun ls => (cntP insP).bind fun c => .ret ⟨ps, r, ls, c⟩
def imgP : Par Img := strP.bind fun nm => (cntP u8P).bind fun fs => (cntP impP).bind fun is => (cntP mthP).bind fun ms => (cntP u8P).bind fun ex => .ret ⟨nm, fs, is, ms, ex⟩
def noImg : Img := ⟨[], [], [], [], []⟩
/-- Bytes read as an applet, or an error. -/
def readImg (b : List Int) : Img × Int :=
  if 8192 < b.length then (noImg, 6)
  else if b.length < 5 then (noImg, 7)
  else if b.take 5 ≠ head5 then (noImg, 5)
  else match imgP (b.drop 5) with
    | .error e => (noImg, e)
    | .ok (i, r) => if r ≠ [] ∨ imgB i = false then (noImg, 5) else (i, 0)
theorem bind_ok {α β : Type} {P : Par α} {Q : α → Par β} {l : List Int} {y : β} {r : List Int} (h : (P.bind Q) l = .ok (y, r)) : ∃ x m, P l = .ok (x, m) ∧ Q x m = .ok (y, r) := by
  unfold Par.bind at h
  split at h
  · rename_i x m e; exact ⟨x, m, e, h⟩
  · cases h
theorem bind_run {α β : Type} {P : Par α} {Q : α → Par β} {l : List Int} {x : α} {m : List Int} (h : P l = .ok (x, m)) : (P.bind Q) l = Q x m := by
  unfold Par.bind; rw [h]
theorem ret_ok {α : Type} {x y : α} {l r : List Int} (h : Par.ret x l = .ok (y, r)) : y = x ∧ r = l := by
  unfold Par.ret at h
  simp only [Except.ok.injEq, Prod.mk.injEq] at h
  exact ⟨h.1.symm, h.2.symm⟩
/-- What is read is what it is laid as. -/
def Inv {α : Type} (P : Par α) (en : α → List Int) : Prop := ∀ l x r, Byt l → P l = .ok (x, r) → l = en x ++ r
theorem Byt.tail {a r : List Int} (h : Byt (a ++ r)) : Byt r := fun x hx => h x (by simp [hx])
theorem put_byte {x : Int} (h : 0 ≤ x ∧ x ≤ 255) : putN x 1 = [x] := by
  simp [putN]; omega
theorem u8_inv' {l : List Int} {x : Int} {r : List Int} (hb : Byt l) (h : u8P l = .ok (x, r)) : l = putN x 1 ++ r ∧ 0 ≤ x ∧ x ≤ 255 := by
  cases l with
  | nil => cases h
  | cons y l =>
    simp only [u8P, Except.ok.injEq, Prod.mk.injEq] at h
    obtain ⟨rfl, rfl⟩ := h
    have := hb y (by simp)
    exact ⟨by rw [put_byte this]; rfl, this⟩
theorem u8_inv : Inv u8P (fun x => putN x 1) := fun l x r hb h => (u8_inv' hb h).1
theorem u8_back (x : Int) (h : 0 ≤ x ∧ x ≤ 255) (r : List Int) : u8P (putN x 1 ++ r) = .ok (x, r) := by
  rw [put_byte h]; rfl
theorem rep_inv {α : Type} {P : Par α} {en : α → List Int} (hP : Inv P en) (n : Nat) : ∀ l xs r, Byt l → repP P n l = .ok (xs, r) → l = xs.flatMap en ++ r ∧ xs.length = n := by
  induction n with
  | zero =>
    intro l xs r hb h
    obtain ⟨rfl, rfl⟩ := ret_ok h
    exact ⟨rfl, rfl⟩
  | succ n ih =>
    intro l xs r hb h
    obtain ⟨ys, m, h1, h2⟩ := bind_ok h
    obtain ⟨x, m', h3, h4⟩ := bind_ok h2
    obtain ⟨rfl, rfl⟩ := ret_ok h4
    obtain ⟨rfl, rfl⟩ := ih _ _ _ hb h1
    have := hP _ _ _ hb.tail h3
    subst this
    simp
theorem rep_back {α : Type} {P : Par α} {en : α → List Int} (n : Nat) : ∀ (xs : List α) (r : List Int), xs.length = n → (∀ x ∈ xs, ∀ r, P (en x ++ r) = .ok (x, r)) → repP P n (xs.flatMap en ++ r) = .ok (xs, r) := by
  induction n with
  | zero =>
    intro xs r hl _
    obtain rfl := List.eq_nil_of_length_eq_zero hl
    rfl
  | succ n ih =>
    intro xs r hl h
    have hne : xs ≠ [] := by intro e; subst e; simp at hl
    have e : xs = xs.dropLast ++ [xs.getLast hne] := (List.dropLast_concat_getLast hne).symm
    generalize hys : xs.dropLast = ys at e
    generalize xs.getLast hne = x at e
    clear hys
    subst e
    simp at hl
    have h1 := ih ys (en x ++ r) hl (fun y hy => h y (by simp [hy]))
    have h2 := h x (by simp) r
    show ((repP P n).bind fun xs => P.bind fun x => .ret (xs ++ [x])) _ = _
    rw [List.flatMap_append, List.append_assoc]
    simp only [List.flatMap_cons, List.flatMap_nil, List.append_nil]
    rw [bind_run h1, bind_run h2]
    rfl
theorem cnt_inv {α : Type} {P : Par α} {en : α → List Int} (hP : Inv P en) : Inv (cntP P) (fun xs => putN xs.length 1 ++ xs.flatMap en) := by
  intro l xs r hb h
  obtain ⟨n, m, h1, h2⟩ := bind_ok h
  obtain ⟨rfl, hn⟩ := u8_inv' hb h1
  obtain ⟨rfl, hl⟩ := rep_inv hP _ _ _ _ hb.tail h2
  have : (xs.length : Int) = n := by omega
  show _ = (putN (xs.length : Int) 1 ++ xs.flatMap en) ++ r
  rw [this, List.append_assoc]
theorem cnt_back {α : Type} {P : Par α} {en : α → List Int} (xs : List α) (r : List Int) (hl : xs.length ≤ 255) (h : ∀ x ∈ xs, ∀ r, P (en x ++ r) = .ok (x, r)) : cntP P ((putN xs.length 1 ++ xs.flatMap en) ++ r) = .ok (xs, r) := by
  unfold cntP
  rw [List.append_assoc, bind_run (u8_back (xs.length : Int) (by omega) _)]
  exact rep_back _ xs r (by omega) h
theorem encN_inv : Inv (cntP u8P) encN := cnt_inv u8_inv
theorem encN_back (xs : List Int) (r : List Int) (hl : xs.length ≤ 255) (h : ∀ x ∈ xs, 0 ≤ x ∧ x ≤ 255) : cntP u8P (encN xs ++ r) = .ok (xs, r) :=
  cnt_back xs r hl (fun x hx r => u8_back x (h x hx) r)
theorem str_inv : Inv strP encS := by
  intro l s r hb h
  obtain ⟨n, m, h1, h2⟩ := bind_ok h
  obtain ⟨b, m', h3, h4⟩ := bind_ok h2
  obtain ⟨rfl, rfl⟩ := ret_ok h4
  obtain ⟨rfl, hn⟩ := u8_inv' hb h1
  have hm := hb.tail
  unfold rawP at h3
  split at h3
  · rename_i hle
    simp only [Except.ok.injEq, Prod.mk.injEq] at h3
    obtain ⟨rfl, rfl⟩ := h3
    unfold encS
    rw [unnums_length, nums_unnums _ (hm.take _), List.append_assoc, List.take_append_drop]
    have : ((m.take n.toNat).length : Int) = n := by simp; omega
    rw [this]
  · cases h3
theorem str_back (s : List UInt8) (r : List Int) (hl : s.length ≤ 255) : strP (encS s ++ r) = .ok (s, r) := by
  unfold strP encS
  rw [List.append_assoc, bind_run (u8_back (s.length : Int) (by omega) _)]
  have h1 : rawP (s.length : Int).toNat (nums s ++ r) = .ok (nums s, r) := by
    unfold rawP
    have e : (s.length : Int).toNat = (nums s).length := by rw [nums_length]; omega
    rw [e, if_pos (by simp), List.take_left, List.drop_left]
  rw [bind_run h1, unnums_nums]
  rfl
end Go.Tcn
namespace Go.Proofs.YtpabkjjonbhdeaaDoor
open Go.RowKit Go.Tcn
set_option linter.unusedVariables false
set_option linter.unusedSimpArgs false
theorem tk_inv1 {l : List Int} {v : Int} {r : List Int} (hb : Byt l) (h : tk l false 1 = (v, r, false)) : l = putN v 1 ++ r ∧ 0 ≤ v ∧ v ≤ 255 := by
  unfold tk at h
  simp only [Prod.mk.injEq, Bool.not_eq_false'] at h
  obtain ⟨h1, h2, h3⟩ := h
  match l, h3 with
  | [], h3 => simp [rdOk] at h3
  | x :: l, h3 =>
    have hx := hb x (by simp)
    simp only [rdOut, rdRest, h3, if_true] at h1 h2
    have e1 : (1 : Int).toNat = 1 := rfl
    rw [e1] at h1 h2
    simp [beN] at h1 h2
    subst h1; subst h2
    exact ⟨by rw [put_byte hx]; rfl, hx⟩
theorem tk_inv2 {l : List Int} {v : Int} {r : List Int} (hb : Byt l) (h : tk l false 2 = (v, r, false)) : l = putN v 2 ++ r := by
  unfold tk at h
  simp only [Prod.mk.injEq, Bool.not_eq_false'] at h
  obtain ⟨h1, h2, h3⟩ := h
  match l, h3 with
  | [], h3 => simp [rdOk] at h3
  | [x], h3 => simp [rdOk] at h3
  | x :: y :: l, h3 =>
    have hx := hb x (by simp)
    have hy := hb y (by simp)
    simp only [rdOut, rdRest, h3, if_true] at h1 h2
    have e1 : (2 : Int).toNat = 2 := rfl
    rw [e1] at h1 h2
    simp [beN] at h1 h2
    subst h1; subst h2
    simp [putN]
    omega
theorem tk_inv4 {l : List Int} {v : Int} {r : List Int} (hb : Byt l) (h : tk l false 4 = (v, r, false)) : l = putN (s32 v) 4 ++ r := by
  unfold tk at h
  simp only [Prod.mk.injEq, Bool.not_eq_false'] at h
  obtain ⟨h1, h2, h3⟩ := h
  match l, h3 with
  | [], h3 => simp [rdOk] at h3
  | [x], h3 => simp [rdOk] at h3
  | [x, y], h3 => simp [rdOk] at h3
  | [x, y, z], h3 => simp [rdOk] at h3
  | x :: y :: z :: u :: l, h3 =>
    have hx := hb x (by simp)
    have hy := hb y (by simp)
    have hz := hb z (by simp)
    have hu := hb u (by simp)
    simp only [rdOut, rdRest, h3, if_true] at h1 h2
    have e1 : (4 : Int).toNat = 4 := rfl
    rw [e1] at h1 h2
    simp [beN] at h1 h2
    subst h1; subst h2
    simp [putN, s32]
    omega
theorem ins_inv : Inv insP encIns := by
  intro l x r hb h
  unfold insP at h
  split at h
  · rename_i h0
    simp only [Except.ok.injEq, Prod.mk.injEq] at h
    obtain ⟨rfl, hr⟩ := h
    by_cases hs : rdOk l false 1 = true
    · by_cases ho : 1 ≤ beN (rdOut l false 1) ∧ beN (rdOut l false 1) ≤ 39
      · obtain ⟨op, hop⟩ : ∃ op, op = beN (rdOut l false 1) := ⟨_, rfl⟩
        rw [← hop] at ho
        have ht : tk l false 1 = (op, rdRest l false 1, false) := by unfold tk; rw [hs, hop]; rfl
        obtain ⟨hl, _⟩ := tk_inv1 hb ht
        obtain ⟨q, hq⟩ : ∃ q, q = rdRest l false 1 := ⟨_, rfl⟩
        rw [← hq] at hl
        have hbq : Byt q := by rw [hl] at hb; exact hb.tail
        obtain ⟨a, b, r', k', he⟩ : ∃ a b r' k', opsI op q false = ((a, b), r', k') := ⟨_, _, _, _, rfl⟩
        have hri := readI_ok l false hs op hop.symm ho a b r' k' (by rw [← hq]; exact he)
        cases k'
        · rw [if_neg (by simp)] at hri
          cases hR : rightI op a b
          · rw [hR, if_pos rfl] at hri
            rw [hri] at h0; simp at h0
          · rw [hR, if_neg (by simp)] at hri
            rw [hri] at hr ⊢
            simp only at hr ⊢
            subst hr
            show l = encI op a b ++ r'
            rw [hl]
            obtain ⟨h1, h2, h3, h4, h5, h6⟩ := rightI_facts op a b hR
            unfold opsI at he
            by_cases k1 : op = 1
            · subst k1
              rw [if_pos rfl] at he
              simp only [Prod.mk.injEq] at he
              obtain ⟨⟨ha, hb0⟩, ht⟩ := he
              subst hb0
              rw [encI_1]
              have := tk_inv4 (v := (tk q false 4).1) (r := r') hbq (by rw [← ht])
              rw [ha] at this
              rw [List.append_assoc, ← this]
            rw [if_neg k1] at he
            by_cases k2 : op = 23 ∨ op = 24
            · rw [if_pos k2] at he
              simp only [Prod.mk.injEq] at he
              obtain ⟨⟨ha, hb0⟩, ht⟩ := he
              subst hb0
              have := tk_inv2 (v := (tk q false 2).1) (r := r') hbq (by rw [← ht])
              rw [ha] at this
              rcases k2 with rfl | rfl
              · rw [encI_23, List.append_assoc, ← this]
              · rw [encI_24, List.append_assoc, ← this]
            rw [if_neg k2] at he
            by_cases k3 : op = 27
            · subst k3
              rw [if_pos rfl] at he
              simp only [Prod.mk.injEq] at he
              obtain ⟨⟨ha, hb0⟩, ht⟩ := he
              have hk : (tk q false 1).2.2 = false := by
                cases hk : (tk q false 1).2.2
                · rfl
                · rw [hk] at ht
                  simp [tk, rdOk] at ht
              rw [hk] at hb0 ht
              have t1 := tk_inv1 (v := (tk q false 1).1) (r := (tk q false 1).2.1) hbq (Prod.ext rfl (Prod.ext rfl hk))
              have hb2 : Byt (tk q false 1).2.1 := by have := hbq; rw [t1.1] at this; exact this.tail
              have t2 := tk_inv1 (v := (tk (tk q false 1).2.1 false 1).1) (r := r') hb2 (by rw [← ht])
              rw [encI_27, List.append_assoc, List.append_assoc, ← ha, ← hb0, ← t2.1, ← t1.1]
            rw [if_neg k3] at he
            by_cases k4 : opndN op = 1
            · rw [if_pos k4] at he
              simp only [Prod.mk.injEq] at he
              obtain ⟨⟨ha, hb0⟩, ht⟩ := he
              subst hb0
              have t1 := tk_inv1 (v := (tk q false 1).1) (r := r') hbq (by rw [← ht])
              rw [encI_one op a 0 (by omega) k4, List.append_assoc, ← ha, ← t1.1]
            · rw [if_neg k4] at he
              simp only [Prod.mk.injEq] at he
              obtain ⟨⟨ha, hb0⟩, ht, _⟩ := he
              subst hb0; subst ha; subst ht
              rw [encI_zero op 0 0 (by omega) k4]
        · rw [if_pos rfl] at hri
          rw [hri] at h0; simp at h0
      · rw [readI_op l false hs ho] at h0; simp at h0
    · rw [readI_short l false (by simpa using hs)] at h0; simp at h0
  · cases h
theorem ins_back (x : Ins) (h : rightI x.op x.a x.b = true) (r : List Int) : insP (encIns x ++ r) = .ok (x, r) := by
  unfold insP encIns
  rw [readI_enc _ _ _ h]
  simp
theorem imp_inv : Inv impP encImp := by
  intro l x r hb h
  obtain ⟨nm, m1, h1, g1⟩ := bind_ok h
  obtain rfl := str_inv _ _ _ hb h1
  obtain ⟨e, m2, h2, g2⟩ := bind_ok g1
  obtain rfl := u8_inv _ _ _ hb.tail h2
  obtain ⟨ps, m3, h3, g3⟩ := bind_ok g2
  obtain rfl := encN_inv _ _ _ hb.tail.tail h3
  obtain ⟨rs, m4, h4, g4⟩ := bind_ok g3
  obtain rfl := u8_inv _ _ _ hb.tail.tail.tail h4
  obtain ⟨rfl, rfl⟩ := ret_ok g4
  simp [encImp]
theorem mth_inv : Inv mthP encMth := by
  intro l x r hb h
  obtain ⟨nm, m1, h1, g1⟩ := bind_ok h
  obtain rfl := encN_inv _ _ _ hb h1
  obtain ⟨e, m2, h2, g2⟩ := bind_ok g1
  obtain rfl := u8_inv _ _ _ hb.tail h2
  obtain ⟨ps, m3, h3, g3⟩ := bind_ok g2
  obtain rfl := encN_inv _ _ _ hb.tail.tail h3
  obtain ⟨rs, m4, h4, g4⟩ := bind_ok g3
  obtain rfl := cnt_inv ins_inv _ _ _ hb.tail.tail.tail h4
  obtain ⟨rfl, rfl⟩ := ret_ok g4
  simp [encMth]
theorem img_inv : Inv imgP encBody := by
  intro l x r hb h
  obtain ⟨nm, m1, h1, g1⟩ := bind_ok h
  obtain rfl := str_inv _ _ _ hb h1
  obtain ⟨fs, m2, h2, g2⟩ := bind_ok g1
  obtain rfl := encN_inv _ _ _ hb.tail h2
  obtain ⟨is, m3, h3, g3⟩ := bind_ok g2
  obtain rfl := cnt_inv imp_inv _ _ _ hb.tail.tail h3
  obtain ⟨ms, m4, h4, g4⟩ := bind_ok g3
  obtain rfl := cnt_inv mth_inv _ _ _ hb.tail.tail.tail h4
  obtain ⟨ex, m5, h5, g5⟩ := bind_ok g4
  obtain rfl := encN_inv _ _ _ hb.tail.tail.tail.tail h5
  obtain ⟨rfl, rfl⟩ := ret_ok g5
  simp [encBody]
theorem imp_back (x : Imp) (h : impB x = true) (r : List Int) : impP (encImp x ++ r) = .ok (x, r) := by
  obtain ⟨h1, h2, h3, h4⟩ := impB_le h
  unfold impP encImp
  simp only [List.append_assoc]
  rw [bind_run (str_back _ _ (by omega)), bind_run (u8_back _ (by omega) _), bind_run (encN_back _ _ (by omega) (fun y hy => by have := h3.2 y hy; omega)), bind_run (u8_back _ (by omega) _)]
  rfl
theorem mth_back (x : Mth) (h : mthB x = true) (r : List Int) : mthP (encMth x ++ r) = .ok (x, r) := by
  obtain ⟨h1, h2, h3, h4, h5⟩ := mthB_le h
  unfold mthP encMth
  simp only [List.append_assoc]
  rw [bind_run (encN_back _ _ (by omega) (fun y hy => by have := h1.2 y hy; omega)), bind_run (u8_back _ (by omega) _), bind_run (encN_back _ _ (by omega) (fun y hy => by have := h3.2 y hy; omega))]
  rw [← List.append_assoc, bind_run (cnt_back (en := encIns) x.code r (by omega) (fun y hy r => ins_back y (h5 y hy) r))]
  rfl
theorem img_back (i : Img) (h : imgB i = true) (r : List Int) : imgP (encBody i ++ r) = .ok (i, r) := by
  obtain ⟨h1, h2, h3, h4, h5⟩ := imgB_le h
  unfold imgP encBody
  simp only [List.append_assoc]
  rw [bind_run (str_back _ _ (by omega)), bind_run (encN_back _ _ (by omega) (fun y hy => by have := h2.2 y hy; omega))]
  rw [← List.append_assoc (putN _ 1), bind_run (cnt_back (en := encImp) i.imports _ (by omega) (fun y hy r => imp_back y (h3.2 y hy) r))]
  rw [← List.append_assoc (putN _ 1), bind_run (cnt_back (en := encMth) i.methods _ (by omega) (fun y hy r => mth_back y (h4.2 y hy) r))]
  rw [bind_run (encN_back _ _ (by omega) (fun y hy => by have := h5.2 y hy; omega))]
  rfl
/-- No error is none. -/
def NZ {α : Type} (P : Par α) : Prop := ∀ l e, P l = .error e → e ≠ 0
theorem nz_ret {α : Type} (x : α) : NZ (Par.ret x) := fun l e h => by cases h
theorem nz_bind {α β : Type} {P : Par α} {Q : α → Par β} (hP : NZ P) (hQ : ∀ x, NZ (Q x)) : NZ (P.bind Q) := by
  intro l e h
  unfold Par.bind at h
  split at h
  · exact hQ _ _ _ h
  · rename_i e' he
    simp only [Except.error.injEq] at h
    subst h
    exact hP _ _ he
theorem nz_u8 : NZ u8P := by
  intro l e h
  cases l with
  | nil => simp only [u8P, Except.error.injEq] at h; omega
  | cons x l => cases h
theorem nz_raw (n : Nat) : NZ (rawP n) := by
  intro l e h
  unfold rawP at h
  split at h
  · cases h
  · simp only [Except.error.injEq] at h; omega
theorem nz_ins : NZ insP := by
  intro l e h
  unfold insP at h
  split at h
  · cases h
  · rename_i h0
    simp only [Except.error.injEq] at h
    rw [← h]; exact h0
theorem nz_rep {α : Type} {P : Par α} (hP : NZ P) (n : Nat) : NZ (repP P n) := by
  induction n with
  | zero => exact nz_ret _
  | succ n ih => exact nz_bind ih fun xs => nz_bind hP fun x => nz_ret _
theorem nz_cnt {α : Type} {P : Par α} (hP : NZ P) : NZ (cntP P) := nz_bind nz_u8 fun n => nz_rep hP _
theorem nz_str : NZ strP := nz_bind nz_u8 fun n => nz_bind (nz_raw _) fun b => nz_ret _
theorem nz_imp : NZ impP := nz_bind nz_str fun _ => nz_bind nz_u8 fun _ => nz_bind (nz_cnt nz_u8) fun _ => nz_bind nz_u8 fun _ => nz_ret _
theorem nz_mth : NZ mthP := nz_bind (nz_cnt nz_u8) fun _ => nz_bind nz_u8 fun _ => nz_bind (nz_cnt nz_u8) fun _ => nz_bind (nz_cnt nz_ins) fun _ => nz_ret _
theorem nz_img : NZ imgP := nz_bind nz_str fun _ => nz_bind (nz_cnt nz_u8) fun _ => nz_bind (nz_cnt nz_imp) fun _ => nz_bind (nz_cnt nz_mth) fun _ => nz_bind (nz_cnt nz_u8) fun _ => nz_ret _
/-- What is laid is read back. -/
theorem readImg_enc (i : Img) (h : imgB i = true) : readImg (encImg i) = (i, 0) := by
  have hl := encImg_le h
  unfold readImg
  rw [if_neg (by omega), if_neg (by unfold encImg head5; simp), if_neg (by unfold encImg; simp [head5])]
  have e : (encImg i).drop 5 = encBody i ++ [] := by unfold encImg; simp [head5]
  rw [e, img_back i h []]
  simp [h]
/-- What is read is laid as the same bytes. -/
theorem readImg_inv (b : List Int) (hb : Byt b) (i : Img) (h : readImg b = (i, 0)) : imgB i = true ∧ b = encImg i := by
  unfold readImg at h
  split at h
  · simp at h
  split at h
  · simp at h
  split at h
  · simp at h
  rename_i h1 h2 h3
  split at h
  · rename_i e he
    simp only [Prod.mk.injEq] at h
    exact absurd h.2 (nz_img _ _ he)
  · rename_i j r he
    split at h
    · simp at h
    · rename_i hn
      simp only [not_or, Decidable.not_not, Bool.not_eq_false] at hn
      simp only [Prod.mk.injEq, and_true] at h
      subst h
      refine ⟨hn.2, ?_⟩
      have := img_inv _ _ _ (hb.drop 5) he
      rw [hn.1, List.append_nil] at this
      have h3' : b.take 5 = head5 := by simpa using h3
      unfold encImg
      rw [← this, ← h3', List.take_append_drop]
/-- Bytes that end early are refused. -/
theorem readImg_cut (i : Img) (h : imgB i = true) (n : Nat) (hn : n < (encImg i).length) : (readImg ((encImg i).take n)).2 ≠ 0 := by
  intro h0
  obtain ⟨j, hj⟩ : ∃ j, readImg ((encImg i).take n) = (j, 0) := ⟨(readImg ((encImg i).take n)).1, by rw [← h0]⟩
  obtain ⟨h1, h2⟩ := readImg_inv _ ((encImg_byt i).take n) j hj
  have hdl : ((encImg i).drop n).length = (encImg i).length - n := by simp
  have e : encImg i = encImg j ++ (encImg i).drop n := by rw [← h2, List.take_append_drop]
  generalize (encImg i).drop n = d at *
  have e5 : (encImg i).drop 5 = encBody j ++ d := by
    rw [e]
    unfold encImg
    simp [head5]
  have e6 : (encImg i).drop 5 = encBody i ++ [] := by unfold encImg; simp [head5]
  have k1 := img_back i h []
  rw [← e6, e5, img_back j h1 _] at k1
  simp only [Except.ok.injEq, Prod.mk.injEq] at k1
  have := congrArg List.length k1.2
  simp at this
  rw [this] at hdl
  simp at hdl
  omega
/-- With one more, too. -/
theorem readImg_more (i : Img) (h : imgB i = true) (x : Int) : (readImg (encImg i ++ [x])).2 ≠ 0 := by
  have hl := encImg_le h
  unfold readImg
  rw [if_neg (by simp; omega), if_neg (by unfold encImg head5; simp <;> omega), if_neg (by unfold encImg; simp [head5])]
  have e : (encImg i ++ [x]).drop 5 = encBody i ++ [x] := by unfold encImg; simp [head5]
  rw [e, img_back i h [x]]
  simp
end Go.Proofs.YtpabkjjonbhdeaaDoor
