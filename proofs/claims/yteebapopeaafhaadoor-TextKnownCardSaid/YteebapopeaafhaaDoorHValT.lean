/-
  HELPERS over any program: how arguments that came in are opened, and how a law's row is shut. Conditions: none.
  CONTRACTS: utf8.ValidString at short names. Conditions: utf8's tables as they are laid.
-/
import Derived.Test.YteebapopeaafhaaDoorHCodeP
import Derived.Test.YteebapopeaafhaaDoorRows
import Derived.ProofKit
import Derived.OpenShut
import Derived.JoinedCond
import Derived.SizedLaws
import Derived.Deep.Slices
import Derived.Deep.Strs
import Derived.ChangeMaps5
import Derived.Test.YteebapopeaafhaaDoorHShelfT
import Derived.Shelf.Unicode.ValidAny
import Derived.Lib.LaidU8T
namespace Go.Tcn
open Go.RowKit Go.ChangeShapes Go.WideShapes Go.Deep
set_option linter.unusedVariables false
set_option linter.unusedSimpArgs false

section
variable {H : Type} {enc : TypeId × Value → H} {P : Program}

theorem trodAll_tch (hl : laidOutB P = true) {W W' : World} (hb : Tch [] W W') : ∀ (ts : List TypeId) (vs : List Value) (ds : List (DataW H)) (ps : List MemPlace),
    (∀ t ∈ ts, P.readableRec t = true ∧ t < P.types.size) → (∀ x ∈ ps, x.block < W.heap.size) → DataW.TrodAll enc P W 0 (fun _ => true) true ts vs ds ps →
    DataW.TrodAll enc P W' 0 (fun b => decide (b < W.heap.size)) true ts vs ds ps
  | [], [], [], ps, _, _, h => h
  | t :: ts, v :: vs, d :: ds, ps, hr, hlt, h => by
    obtain ⟨p, q, h1, h2, rfl⟩ := h
    refine ⟨p, q, Below.trod hl (hr t (by simp)).1 (hr t (by simp)).2 h1 hb.below (fun x hx => hlt x (by simp [hx])), ?_, rfl⟩
    exact trodAll_tch hl hb ts vs ds q (fun t ht => hr t (by simp [ht])) (fun x hx => hlt x (by simp [hx])) h2
  | [], [], _ :: _, _, _, _, h => by simp [DataW.TrodAll] at h
  | [], _ :: _, _, _, _, _, h => by simp [DataW.TrodAll] at h
  | _ :: _, [], _, _, _, _, h => by simp [DataW.TrodAll] at h
  | _ :: _, _ :: _, [], _, _, _, h => by simp [DataW.TrodAll] at h

/-- A LAW's ROW: it returned true, and nothing that was there has turned. -/
theorem law_post {f : Func} {s : ChangeSpec} {W W' : World} {args : Array Value} {ds gs : List (DataW H)} {ps : List MemPlace} {tb : TypeId} (hl : laidOutB P = true) (hr : ∀ t ∈ f.params.toList, P.readableRec t = true ∧ t < P.types.size)
    (hres : f.resultTypes = #[tb]) (htb : P.underlying tb = some .bool) (hvars : s.vars = []) (hW : DataW.Whole enc P f.params.toList s.vars false W args.toList ds gs ps)
    (hs1 : (s.fn H (ds ++ gs)).results = [.lit (.bool true)]) (hs2 : (s.fn H (ds ++ gs)).args = ds) (hs3 : (s.fn H (ds ++ gs)).vars = []) (hb : Tch [] W W') :
    s.post enc P f false true false false W args (.bool true) W' := by
  have hlt := DataW.Whole.lt hW
  have hW0 := hW
  obtain ⟨p, q, hA, hV, rfl, hfz, hnd⟩ := hW
  rw [hvars] at hV
  obtain ⟨rfl, rfl⟩ := trodVars_none hV
  refine ⟨ds, [], p ++ [], [], p, [], hW0, ?_, ?_, ?_, hb.below.frame _, fun h => by cases h⟩
  · rw [hs1, hres]; exact trodAll_mk1 (shut_bool htb true)
  · rw [hs2]; exact trodAll_tch hl hb _ _ _ _ hr (fun x hx => hlt x (by simpa using hx)) hA
  · rw [hs3, hvars]; rfl

end
end Go.Tcn
namespace Go.Proofs.YteebapopeaafhaaDoor
open Go.RowKit Go.Tcn Go.Shelf
set_option linter.unusedVariables false
set_option linter.unusedSimpArgs false
theorem tabs_tch {g h : Nat} {w w' : World} (hT : Lib.Utf8Tabs g h w) (t : Tch [] w w') : Lib.Utf8Tabs g h w' :=
  ⟨fun c hc => by rw [t.cell (cell_lt (hT.1 c hc)) (by simp)]; exact hT.1 c hc, fun i hi => ⟨by rw [t.cell (cell_lt (hT.2 i hi).1) (by simp)]; exact (hT.2 i hi).1, by rw [t.cell (cell_lt (hT.2 i hi).2) (by simp)]; exact (hT.2 i hi).2⟩⟩
theorem valid_of (W : World) (hT : Lib.Utf8Tabs 0 1 W) : ∀ nm w', nm.length ≤ 16 → Tch [] W w' → Calls Tryd.prog 66 #[.string ⟨nm.toArray⟩] w' fun e w'' => e = .returned (.bool (Lib.validD nm)) ∧ Tch [] w' w'' :=
  fun nm w' hl t => (Any.utf8_ValidString Tryd.laysValid ⟨nm.toArray⟩ w' (by simp [ByteArray.size]; omega) (tabs_tch hT t)).mono fun e w'' ⟨h, b⟩ => ⟨by simpa using h, Tch.of_below b []⟩
theorem first_eq : Rows.laid_unicode_utf8_first = Lib.firstData := by kernel_rfl
theorem accept_eq : (Rows.laid_unicode_utf8_acceptRanges : DataW Unit) = Lib.acceptData := by kernel_rfl
theorem tabs_of (W : World) (h1 : Lib.VarReads Tryd.prog W "unicode/utf8.first" Rows.laid_unicode_utf8_first) (h2 : Lib.VarReads Tryd.prog W "unicode/utf8.acceptRanges" Rows.laid_unicode_utf8_acceptRanges) : Lib.Utf8Tabs 0 1 W :=
  utf8Tabs_of_readsT (U8Types.of196 Tryd.laysValid) ⟨by kernel_rfl, by kernel_rfl, by kernel_rfl, by kernel_rfl, by kernel_rfl, by kernel_rfl, by kernel_rfl⟩ (first_eq ▸ h1) (accept_eq ▸ h2)
end Go.Proofs.YteebapopeaafhaaDoor
