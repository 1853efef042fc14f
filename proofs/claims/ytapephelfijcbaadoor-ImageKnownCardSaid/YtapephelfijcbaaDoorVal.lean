/-
  CONTRACTS: utf8.ValidString at short names. Conditions: utf8's tables as they are laid.
-/
import Derived.Test.YtapephelfijcbaaDoorShelf
import Derived.Test.YtapephelfijcbaaDoorRows
import Derived.Test.YtapephelfijcbaaDoorLib
import Derived.Shelf.Unicode.ValidAny
import Derived.Lib.LaidU8T
namespace Go.Proofs.YtapephelfijcbaaDoor
open Go.RowKit Go.Tcn Go.Shelf
set_option linter.unusedVariables false
set_option linter.unusedSimpArgs false
theorem tabs_tch {g h : Nat} {w w' : World} (hT : Lib.Utf8Tabs g h w) (t : Tch [] w w') : Lib.Utf8Tabs g h w' :=
  ⟨fun c hc => by rw [t.cell (cell_lt (hT.1 c hc)) (by simp)]; exact hT.1 c hc, fun i hi => ⟨by rw [t.cell (cell_lt (hT.2 i hi).1) (by simp)]; exact (hT.2 i hi).1, by rw [t.cell (cell_lt (hT.2 i hi).2) (by simp)]; exact (hT.2 i hi).2⟩⟩
theorem valid_of (W : World) (hT : Lib.Utf8Tabs 0 1 W) : ∀ nm w', nm.length ≤ 16 → Tch [] W w' → Calls Tryd.prog 40 #[.string ⟨nm.toArray⟩] w' fun e w'' => e = .returned (.bool (Lib.validD nm)) ∧ Tch [] w' w'' :=
  fun nm w' hl t => (Any.utf8_ValidString Tryd.laysValid ⟨nm.toArray⟩ w' (by simp [ByteArray.size]; omega) (tabs_tch hT t)).mono fun e w'' ⟨h, b⟩ => ⟨by simpa using h, Tch.of_below b []⟩
theorem first_eq : Rows.laid_unicode_utf8_first = Lib.firstData := by kernel_rfl
theorem accept_eq : (Rows.laid_unicode_utf8_acceptRanges : DataW Unit) = Lib.acceptData := by kernel_rfl
theorem tabs_of (W : World) (h1 : Lib.VarReads Tryd.prog W "unicode/utf8.first" Rows.laid_unicode_utf8_first) (h2 : Lib.VarReads Tryd.prog W "unicode/utf8.acceptRanges" Rows.laid_unicode_utf8_acceptRanges) : Lib.Utf8Tabs 0 1 W :=
  utf8Tabs_of_readsT (U8Types.of196 Tryd.laysValid) ⟨by kernel_rfl, by kernel_rfl, by kernel_rfl, by kernel_rfl, by kernel_rfl, by kernel_rfl, by kernel_rfl⟩ (first_eq ▸ h1) (accept_eq ▸ h2)
end Go.Proofs.YtapephelfijcbaaDoor
