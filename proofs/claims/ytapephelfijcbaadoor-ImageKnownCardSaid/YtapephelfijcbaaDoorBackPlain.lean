/-
  PLAIN LAW: what is laid is taken again: bytes as lists of numbers. Conditions: none.
-/
import Derived.Test.YtapephelfijcbaaDoorRd
namespace Go.Proofs.YtapephelfijcbaaDoor
open Go.Tcn
set_option linter.unusedVariables false
set_option linter.unusedSimpArgs false
/-- What a step lays. -/
def encSt (x : Int × Int × List Int) : List Int :=
  if x.1 % 4 = 0 then putN (x.2.1 % 256) 1 else if x.1 % 4 = 1 then putN (x.2.1 % 65536) 2 else if x.1 % 4 = 2 then putN (s32 x.2.1) 4 else putN ((x.2.2.take 255).length : Int) 1 ++ x.2.2.take 255
theorem encSt_0 {x : Int × Int × List Int} (h : x.1 % 4 = 0) : encSt x = putN (x.2.1 % 256) 1 := by simp [encSt, h]
theorem encSt_1 {x : Int × Int × List Int} (h : x.1 % 4 = 1) : encSt x = putN (x.2.1 % 65536) 2 := by simp [encSt, h]
theorem encSt_2 {x : Int × Int × List Int} (h : x.1 % 4 = 2) : encSt x = putN (s32 x.2.1) 4 := by simp [encSt, h]
theorem encSt_3 {x : Int × Int × List Int} (h : x.1 % 4 = 3) : encSt x = putN ((x.2.2.take 255).length : Int) 1 ++ x.2.2.take 255 := by simp [encSt, h]
theorem encSt_length (x : Int × Int × List Int) : (encSt x).length ≤ 256 := by
  unfold encSt
  split
  · simp [putN_length]
  · split
    · simp [putN_length]
    · split
      · simp [putN_length]
      · simp [putN_length]; omega
theorem encSt_byt {x : Int × Int × List Int} (h : Byt x.2.2) : Byt (encSt x) := by
  unfold encSt
  split
  · exact byt_putN _ _
  · split
    · exact byt_putN _ _
    · split
      · exact byt_putN _ _
      · exact (byt_putN _ _).append (h.take _)
def encAll (ls : List (Int × Int × List Int)) : List Int := ls.flatMap encSt
theorem encAll_cons (x : Int × Int × List Int) (ls : List (Int × Int × List Int)) : encAll (x :: ls) = encSt x ++ encAll ls := by simp [encAll]
theorem encAll_snoc (x : Int × Int × List Int) (ls : List (Int × Int × List Int)) : encAll (ls ++ [x]) = encAll ls ++ encSt x := by simp [encAll]
theorem encAll_length (ls : List (Int × Int × List Int)) : (encAll ls).length ≤ 256 * ls.length := by
  induction ls with
  | nil => simp [encAll]
  | cons x ls ih => rw [encAll_cons]; have := encSt_length x; simp; omega
theorem encAll_byt {ls : List (Int × Int × List Int)} (h : ∀ x ∈ ls, Byt x.2.2) : Byt (encAll ls) := by
  intro y hy
  simp only [encAll, List.mem_flatMap] at hy
  obtain ⟨x, hx, hy⟩ := hy
  exact encSt_byt (h x hx) y hy
theorem rd_app (a rest : List Int) (n : Int) (h : (a.length : Int) = n) : rdOk (a ++ rest) false n = true ∧ rdOut (a ++ rest) false n = a ∧ rdRest (a ++ rest) false n = rest := by
  have hok : rdOk (a ++ rest) false n = true := by simp [rdOk]; omega
  have hn : n.toNat = a.length := by omega
  refine ⟨hok, ?_, ?_⟩
  · simp [rdOut, hok, hn]
  · simp [rdRest, hok, hn]
theorem beN_put1 (v : Int) : beN (putN v 1) = v % 256 := by simp [putN, beN]
theorem beN_put2 (v : Int) : beN (putN v 2) = v % 65536 := by simp [putN, beN]; omega
theorem beN_put4 (v : Int) : beN (putN v 4) = v % 4294967296 := by simp [putN, beN]; omega
theorem back_0 (n : Int) (rest : List Int) : beN (rdOut (putN (n % 256) 1 ++ rest) false 1) = n % 256 ∧ rdRest (putN (n % 256) 1 ++ rest) false 1 = rest ∧ (!rdOk (putN (n % 256) 1 ++ rest) false 1) = false := by
  obtain ⟨h1, h2, h3⟩ := rd_app (putN (n % 256) 1) rest 1 (by simp [putN_length])
  refine ⟨by rw [h2, beN_put1]; omega, h3, by rw [h1]; rfl⟩
theorem back_1 (n : Int) (rest : List Int) : beN (rdOut (putN (n % 65536) 2 ++ rest) false 2) = n % 65536 ∧ rdRest (putN (n % 65536) 2 ++ rest) false 2 = rest ∧ (!rdOk (putN (n % 65536) 2 ++ rest) false 2) = false := by
  obtain ⟨h1, h2, h3⟩ := rd_app (putN (n % 65536) 2) rest 2 (by simp [putN_length])
  refine ⟨by rw [h2, beN_put2]; omega, h3, by rw [h1]; rfl⟩
theorem back_2 (n : Int) (rest : List Int) : s32 (beN (rdOut (putN (s32 n) 4 ++ rest) false 4)) = s32 n ∧ rdRest (putN (s32 n) 4 ++ rest) false 4 = rest ∧ (!rdOk (putN (s32 n) 4 ++ rest) false 4) = false := by
  obtain ⟨h1, h2, h3⟩ := rd_app (putN (s32 n) 4) rest 4 (by simp [putN_length])
  refine ⟨by rw [h2, beN_put4]; unfold s32; omega, h3, by rw [h1]; rfl⟩
theorem back_3 (b rest : List Int) (hb : b.length ≤ 255) : shOut (putN (b.length : Int) 1 ++ b ++ rest) false = b ∧ shRest (putN (b.length : Int) 1 ++ b ++ rest) false = rest ∧ (!shOk (putN (b.length : Int) 1 ++ b ++ rest) false) = false := by
  rw [List.append_assoc]
  obtain ⟨h1, h2, h3⟩ := rd_app (putN (b.length : Int) 1) (b ++ rest) 1 (by simp [putN_length])
  have e : beN (putN (b.length : Int) 1) = b.length := by rw [beN_put1]; omega
  obtain ⟨k1, k2, k3⟩ := rd_app b rest b.length rfl
  unfold shOut shRest shOk
  rw [h1, h2, h3, e]
  exact ⟨k2, k3, by simpa using k1⟩
end Go.Proofs.YtapephelfijcbaaDoor
