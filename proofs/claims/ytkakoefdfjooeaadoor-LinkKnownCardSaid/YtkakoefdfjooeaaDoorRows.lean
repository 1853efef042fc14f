/-
  NARROWER THAN 'FOR EVERY INPUT', by the rows' own cells (each row's printed sentence says how): LinkKnown: laid · LinkResolves: laid.
  DERIVED. THE GIVEN ROWS OF THIS SEAT. 2 by the template 'for every input the law returns true; each argument reads behind the call as it read before'; 0 by the template 'total and deterministic' (their statements: YtkakoefdfjooeaaDoorTotals.lean).
  GIVEN WITH THE SEED: the statements are not yours to turn. If you find one false, say at which input.
  Laid BY PROGRAM, IN A SANDBOX (cutbox-rows.mjs): the forced cells as the released guide's own fill.sh prints them over the translation f2f1f658133bc465… (all of the seat's roots in one cut). By AI agents, Wed Nov 11 2026. No macro, syntax, notation, axiom, sorry.
-/
import Derived.Test.YtkakoefdfjooeaaDoorChecked
import GoSem.Claim
import GoSem.ClaimJoined
import GoSem.ClaimMapViews
import Derived.JoinedTies
import Derived.KernelRfl
namespace Go.Proofs.YtkakoefdfjooeaaDoor
/- THE CELL 'sum', in the pinned program and in every row, IS THE sha256 OF THE DUMP (.gsa) THAT YtkakoefdfjooeaaDoorProg.lean LOADS. Nothing in Lean hashes anything: it is a label: what it is worth is what the hold of that sum in a sandbox is worth. -/
noncomputable def Tryd.pinned : Pinned := { name := "ytkakoefdfjooeaadoor", sum := "f2f1f658133bc46503f882059ebee130f53c7b1cd22a2e6df026dc8f6e7ed620", checked := Tryd.checked }
namespace Rows
def none {H : Type} : Left H := { results := [], args := [] }

/- WHAT THE LISTED PACKAGE-LEVEL VARIABLES READ AS WHEN THE CALL BEGINS. Each datum BY PROGRAM (the guide's laid-datum.mjs) off the statement by which the dump's own 'gosem.cut.vars' lays the variable. In a bare row this is a premise. The card (YtkakoefdfjooeaaDoorCards.lean) ties it to the program's text. -/
def laid_taciturn_taciturnhand_bins {H : Type} : DataW H := .agg [.lit (.int .i64 6), .lit (.int .i64 7), .lit (.int .i64 8), .lit (.int .i64 9), .lit (.int .i64 10), .lit (.int .i64 11), .lit (.int .i64 12), .lit (.int .i64 13), .lit (.int .i64 14), .lit (.int .i64 19), .lit (.int .i64 20), .lit (.int .i64 21)]

/-- 'taciturnlaw11.LinkKnown': WHATEVER THE INPUT: true; the input reads as it did. -/
def linkKnownSpec : ChangeSpec := { name := "linkKnown", fn := fun _ => fun
  | [] => { results := [.lit (.bool true)], args := [] }
  | _ => none }
def linkKnownRow : OpenClaim := { program := "ytkakoefdfjooeaadoor", sum := "f2f1f658133bc46503f882059ebee130f53c7b1cd22a2e6df026dc8f6e7ed620", func := "taciturn/taciturnlaw11.LinkKnown", spec := "linkKnown", unfollowed := true, recurses := true, named := ["taciturn/taciturnhand.bins"], apart := false, laid := [("taciturn/taciturnhand.bins", laid_taciturn_taciturnhand_bins)] }
def LinkKnownSaid : Prop := linkKnownRow.holds Tryd.pinned (OpenSpec.ofChange linkKnownSpec)

/-- ITS FALSE NEIGHBOUR: 'it returns false'. Refute it at one input. -/
def linkKnownWrong : ChangeSpec := { name := "linkKnown", fn := fun _ => fun
  | [] => { results := [.lit (.bool false)], args := [] }
  | _ => none }
def LinkKnownWrongFalsely : Prop := linkKnownRow.holds Tryd.pinned (OpenSpec.ofChange linkKnownWrong)

/-- 'taciturnlaw11.LinkResolves': WHATEVER THE INPUT: true; the input reads as it did. -/
def linkResolvesSpec : ChangeSpec := { name := "linkResolves", fn := fun _ => fun
  | [d1, d2, d3, d4, d5] => { results := [.lit (.bool true)], args := [d1, d2, d3, d4, d5] }
  | _ => none }
def linkResolvesRow : OpenClaim := { program := "ytkakoefdfjooeaadoor", sum := "f2f1f658133bc46503f882059ebee130f53c7b1cd22a2e6df026dc8f6e7ed620", func := "taciturn/taciturnlaw11.LinkResolves", spec := "linkResolves", unfollowed := true, recurses := true, named := ["taciturn/taciturnhand.bins"], apart := false, laid := [("taciturn/taciturnhand.bins", laid_taciturn_taciturnhand_bins)] }
def LinkResolvesSaid : Prop := linkResolvesRow.holds Tryd.pinned (OpenSpec.ofChange linkResolvesSpec)

/-- ITS FALSE NEIGHBOUR: 'it returns false'. Refute it at one input. -/
def linkResolvesWrong : ChangeSpec := { name := "linkResolves", fn := fun _ => fun
  | [d1, d2, d3, d4, d5] => { results := [.lit (.bool false)], args := [d1, d2, d3, d4, d5] }
  | _ => none }
def LinkResolvesWrongFalsely : Prop := linkResolvesRow.holds Tryd.pinned (OpenSpec.ofChange linkResolvesWrong)

/- THE SECOND FORM. 'bulk': how many values and letters a reading holds, each counted each time it is reached (what is shared counts as often as it is met; a slice's spare places count too). A statement '..UptoSaid' is the law's where the arguments, and the package variables that the reading takes, are together of bulk at most 1048576: NARROWER than '..Said'. Prove '..Said' where nothing that the law and all that it calls make is longer than what came in: it says more and counts as full. Else prove '..UptoSaid'. A law counts once. -/
mutual
def uptoBulk {H : Type} : DataW H → Nat
  | .lit (.string bytes) => bytes.length + 1
  | .lit _ => 1
  | .nil => 1
  | .ptr d => uptoBulk d + 1
  | .slice elems spare => uptoBulkAll elems + uptoBulkAll spare + 1
  | .agg parts => uptoBulkAll parts + 1
  | .iface _ d => uptoBulk d + 1
  | .map entries => uptoBulkEntries entries + 1
  | .held _ => 1
def uptoBulkAll {H : Type} : List (DataW H) → Nat
  | [] => 0
  | d :: r => uptoBulk d + uptoBulkAll r
def uptoBulkEntries {H : Type} : List (Lit × DataW H) → Nat
  | [] => 0
  | x :: r => uptoBulkEntry x + uptoBulkEntries r
def uptoBulkEntry {H : Type} : Lit × DataW H → Nat
  | (.string bytes, d) => bytes.length + uptoBulk d + 1
  | (_, d) => uptoBulk d + 1
 end
def uptoSmall : (H : Type) → List (DataW H) → Bool := fun _ ds => decide (uptoBulkAll ds ≤ 1048576)
def OpenSpec.upto (s : _root_.Go.ChangeSpec) : _root_.Go.OpenSpec := { _root_.Go.OpenSpec.ofChange s with cond := some uptoSmall }

/-- 'taciturnlaw11.LinkKnown', WHERE WHAT IT READS IS OF BULK AT MOST 1048576: true; the input reads as it did. -/
def linkKnownUptoRow : OpenClaim := { program := "ytkakoefdfjooeaadoor", sum := "f2f1f658133bc46503f882059ebee130f53c7b1cd22a2e6df026dc8f6e7ed620", func := "taciturn/taciturnlaw11.LinkKnown", spec := "linkKnown", unfollowed := true, recurses := true, named := ["taciturn/taciturnhand.bins"], apart := false, laid := [("taciturn/taciturnhand.bins", laid_taciturn_taciturnhand_bins)], narrowed := true }
def LinkKnownUptoSaid : Prop := linkKnownUptoRow.holds Tryd.pinned (OpenSpec.upto linkKnownSpec)

/-- 'taciturnlaw11.LinkResolves', WHERE WHAT IT READS IS OF BULK AT MOST 1048576: true; the input reads as it did. -/
def linkResolvesUptoRow : OpenClaim := { program := "ytkakoefdfjooeaadoor", sum := "f2f1f658133bc46503f882059ebee130f53c7b1cd22a2e6df026dc8f6e7ed620", func := "taciturn/taciturnlaw11.LinkResolves", spec := "linkResolves", unfollowed := true, recurses := true, named := ["taciturn/taciturnhand.bins"], apart := false, laid := [("taciturn/taciturnhand.bins", laid_taciturn_taciturnhand_bins)], narrowed := true }
def LinkResolvesUptoSaid : Prop := linkResolvesUptoRow.holds Tryd.pinned (OpenSpec.upto linkResolvesSpec)

end Rows
end Go.Proofs.YtkakoefdfjooeaaDoor
