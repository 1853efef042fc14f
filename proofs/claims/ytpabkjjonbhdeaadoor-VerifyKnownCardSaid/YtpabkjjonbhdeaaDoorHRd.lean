/-
  CONTRACTS: octet.Reader and taciturnref1.Reader take bytes. Conditions: the reader's bytes lie in blocks that nobody turns.
-/
import Derived.Test.YtpabkjjonbhdeaaDoorHOct
import Derived.Laws.BitsAllLaws
namespace Go.Proofs.YtpabkjjonbhdeaaDoor
open Go.RowKit Go.Tcn
set_option linter.unusedVariables false
set_option linter.unusedSimpArgs false
theorem cells_u8 : Tryd.prog.cellsOf 5 = 1 := by kernel_rfl
theorem isinfo_u8 : (Tryd.prog.info? 5).isSome = true := by kernel_rfl

theorem or_u32 (x c : Int) (h0 : 0 ≤ x) (h1 : 256 * x < 4294967296) (h2 : 0 ≤ c) (h3 : c ≤ 255) : bits .or .u32 (x * 256) c = 256 * x + c := by
  obtain ⟨a, rfl⟩ := Int.eq_ofNat_of_zero_le h0
  obtain ⟨b, rfl⟩ := Int.eq_ofNat_of_zero_le h2
  rw [u32_or _ _ (by omega) (by omega) (by omega) (by omega)]
  have e : ((a : Int) * 256).toNat = a * 256 := by omega
  rw [e, Int.toNat_natCast, nat_join 8 _ _ (by omega) (by omega)]
  omega

theorem pow_le4 (m : Nat) (h : m ≤ 4) : (256 : Int) ^ m ≤ 4294967296 := by
  match m, h with
  | 0, _ => decide
  | 1, _ => decide
  | 2, _ => decide
  | 3, _ => decide
  | 4, _ => decide
theorem rd_bound (l : List Int) (lack : Bool) (n : Int) (hb : Byt l) (hn : 0 ≤ n ∧ n ≤ 4) : 0 ≤ beN (rdOut l lack n) ∧ beN (rdOut l lack n) ≤ 4294967295 := by
  have hbyt : Byt (rdOut l lack n) := by unfold rdOut; split; exact hb.take _; exact Byt.nil
  have h1 := beN_lt _ hbyt
  have hle : (rdOut l lack n).length ≤ 4 := by unfold rdOut; split <;> simp; omega
  have h2 := pow_le4 _ hle
  omega
def shOk (l : List Int) (lack : Bool) : Bool := rdOk (rdRest l lack 1) (!rdOk l lack 1) (beN (rdOut l lack 1))
def shOut (l : List Int) (lack : Bool) : List Int := rdOut (rdRest l lack 1) (!rdOk l lack 1) (beN (rdOut l lack 1))
def shRest (l : List Int) (lack : Bool) : List Int := rdRest (rdRest l lack 1) (!rdOk l lack 1) (beN (rdOut l lack 1))

end Go.Proofs.YtpabkjjonbhdeaaDoor
