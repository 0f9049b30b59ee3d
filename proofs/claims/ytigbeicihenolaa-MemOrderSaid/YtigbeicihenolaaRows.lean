/-
  No cell of these rows narrows 'for every input' (looked for: loops, veiled, ifaces, maps, wideKeys, modest, calm, conditions, laid).
  DERIVED. THE GIVEN ROWS OF THIS SEAT. 4 by the template 'for every input the law returns true; each argument reads behind the call as it read before'; 0 by the template 'total and deterministic' (their statements: YtigbeicihenolaaTotals.lean).
  GIVEN WITH THE SEED: the statements are not yours to turn. If you find one false, say at which input.
  Laid BY PROGRAM, IN A SANDBOX (cutbox-rows.mjs): the forced cells as the released guide's own fill.sh prints them over the translation 1961bb4cef8b17c5… (all of the seat's roots in one cut). By AI agents, Wed Nov 11 2026. No macro, syntax, notation, axiom, sorry.
-/
import Derived.Test.YtigbeicihenolaaChecked
import GoSem.Claim
import GoSem.ClaimJoined
import GoSem.ClaimMapViews
import Derived.JoinedTies
import Derived.KernelRfl
namespace Go.Proofs.Ytigbeicihenolaa
/- THE CELL 'sum', in the pinned program and in every row, IS THE sha256 OF THE DUMP (.gsa) THAT YtigbeicihenolaaProg.lean LOADS. Nothing in Lean hashes anything: it is a label: what it is worth is what the hold of that sum in a sandbox is worth. -/
noncomputable def Try.pinned : Pinned := { name := "ytigbeicihenolaa", sum := "1961bb4cef8b17c5fbafb20d943ab34d0fd04934eac52e3f4de025709c25c5f9", checked := Try.checked }
namespace Rows
def none {H : Type} : Left H := { results := [], args := [] }

/-- 'rickyardlaw12.MemSpans': WHATEVER THE INPUT: true; the input reads as it did. -/
def memSpansSpec : ChangeSpec := { name := "memSpans", fn := fun _ => fun
  | [d1, d2] => { results := [.lit (.bool true)], args := [d1, d2] }
  | _ => none }
def memSpansRow : OpenClaim := { program := "ytigbeicihenolaa", sum := "1961bb4cef8b17c5fbafb20d943ab34d0fd04934eac52e3f4de025709c25c5f9", func := "rickyard/rickyardlaw12.MemSpans", spec := "memSpans", inPlace := ["internal/bytealg.abigen_runtime_cmpstring"], unfollowed := true, recurses := true, apart := false }
def MemSpansSaid : Prop := memSpansRow.holds Try.pinned (OpenSpec.ofChange memSpansSpec)

/-- ITS FALSE NEIGHBOUR: 'it returns false'. Refute it at one input. -/
def memSpansWrong : ChangeSpec := { name := "memSpans", fn := fun _ => fun
  | [d1, d2] => { results := [.lit (.bool false)], args := [d1, d2] }
  | _ => none }
def MemSpansWrongFalsely : Prop := memSpansRow.holds Try.pinned (OpenSpec.ofChange memSpansWrong)

/-- 'rickyardlaw12.MemRows': WHATEVER THE INPUT: true; the input reads as it did. -/
def memRowsSpec : ChangeSpec := { name := "memRows", fn := fun _ => fun
  | [d] => { results := [.lit (.bool true)], args := [d] }
  | _ => none }
def memRowsRow : OpenClaim := { program := "ytigbeicihenolaa", sum := "1961bb4cef8b17c5fbafb20d943ab34d0fd04934eac52e3f4de025709c25c5f9", func := "rickyard/rickyardlaw12.MemRows", spec := "memRows", inPlace := ["internal/bytealg.abigen_runtime_cmpstring"], unfollowed := true, recurses := true, apart := false }
def MemRowsSaid : Prop := memRowsRow.holds Try.pinned (OpenSpec.ofChange memRowsSpec)

/-- ITS FALSE NEIGHBOUR: 'it returns false'. Refute it at one input. -/
def memRowsWrong : ChangeSpec := { name := "memRows", fn := fun _ => fun
  | [d] => { results := [.lit (.bool false)], args := [d] }
  | _ => none }
def MemRowsWrongFalsely : Prop := memRowsRow.holds Try.pinned (OpenSpec.ofChange memRowsWrong)

/-- 'rickyardlaw12.MemPuts': WHATEVER THE INPUT: true; the input reads as it did. -/
def memPutsSpec : ChangeSpec := { name := "memPuts", fn := fun _ => fun
  | [d1, d2, d3, d4] => { results := [.lit (.bool true)], args := [d1, d2, d3, d4] }
  | _ => none }
def memPutsRow : OpenClaim := { program := "ytigbeicihenolaa", sum := "1961bb4cef8b17c5fbafb20d943ab34d0fd04934eac52e3f4de025709c25c5f9", func := "rickyard/rickyardlaw12.MemPuts", spec := "memPuts", inPlace := ["internal/bytealg.abigen_runtime_cmpstring"], unfollowed := true, recurses := true, apart := false }
def MemPutsSaid : Prop := memPutsRow.holds Try.pinned (OpenSpec.ofChange memPutsSpec)

/-- ITS FALSE NEIGHBOUR: 'it returns false'. Refute it at one input. -/
def memPutsWrong : ChangeSpec := { name := "memPuts", fn := fun _ => fun
  | [d1, d2, d3, d4] => { results := [.lit (.bool false)], args := [d1, d2, d3, d4] }
  | _ => none }
def MemPutsWrongFalsely : Prop := memPutsRow.holds Try.pinned (OpenSpec.ofChange memPutsWrong)

/-- 'rickyardlaw12.MemOrder': WHATEVER THE INPUT: true; the input reads as it did. -/
def memOrderSpec : ChangeSpec := { name := "memOrder", fn := fun _ => fun
  | [d1, d2] => { results := [.lit (.bool true)], args := [d1, d2] }
  | _ => none }
def memOrderRow : OpenClaim := { program := "ytigbeicihenolaa", sum := "1961bb4cef8b17c5fbafb20d943ab34d0fd04934eac52e3f4de025709c25c5f9", func := "rickyard/rickyardlaw12.MemOrder", spec := "memOrder", inPlace := ["internal/bytealg.abigen_runtime_cmpstring"], unfollowed := true, recurses := true, apart := false }
def MemOrderSaid : Prop := memOrderRow.holds Try.pinned (OpenSpec.ofChange memOrderSpec)

/-- ITS FALSE NEIGHBOUR: 'it returns false'. Refute it at one input. -/
def memOrderWrong : ChangeSpec := { name := "memOrder", fn := fun _ => fun
  | [d1, d2] => { results := [.lit (.bool false)], args := [d1, d2] }
  | _ => none }
def MemOrderWrongFalsely : Prop := memOrderRow.holds Try.pinned (OpenSpec.ofChange memOrderWrong)

/- THE SECOND FORM. 'bulk': how many values and letters a reading holds, each counted each time it is reached (what is shared counts as often as it is met; a slice's spare places count too). A statement '..UptoSaid' is the law's where the arguments, and the package variables that the reading takes, are together of bulk at most 1048576: NARROWER than '..Said'. Prove '..Said' where nothing that the law and all that it calls make is longer than what came in: it says more and counts as full. Else prove '..UptoSaid'. A law counts once. -/
mutual
def uptoBulk {H : Type} : DataW H → Nat
  | .lit (.string bytes) => bytes.length + 1
  | .lit _ => 1
  | .nil => 1
  | .ptr d => uptoBulk d + 1
  | .slice elems spare => uptoBulkAll elems + uptoBulkAll spare + 1
  | .agg parts => uptoBulkAll parts + 1
  | .iface _ d => uptoBulk d + 1
  | .map entries => uptoBulkEntries entries + 1
  | .held _ => 1
def uptoBulkAll {H : Type} : List (DataW H) → Nat
  | [] => 0
  | d :: r => uptoBulk d + uptoBulkAll r
def uptoBulkEntries {H : Type} : List (Lit × DataW H) → Nat
  | [] => 0
  | x :: r => uptoBulkEntry x + uptoBulkEntries r
def uptoBulkEntry {H : Type} : Lit × DataW H → Nat
  | (.string bytes, d) => bytes.length + uptoBulk d + 1
  | (_, d) => uptoBulk d + 1
 end
def uptoSmall : (H : Type) → List (DataW H) → Bool := fun _ ds => decide (uptoBulkAll ds ≤ 1048576)
def OpenSpec.upto (s : _root_.Go.ChangeSpec) : _root_.Go.OpenSpec := { _root_.Go.OpenSpec.ofChange s with cond := some uptoSmall }

/-- 'rickyardlaw12.MemSpans', WHERE WHAT IT READS IS OF BULK AT MOST 1048576: true; the input reads as it did. -/
def memSpansUptoRow : OpenClaim := { program := "ytigbeicihenolaa", sum := "1961bb4cef8b17c5fbafb20d943ab34d0fd04934eac52e3f4de025709c25c5f9", func := "rickyard/rickyardlaw12.MemSpans", spec := "memSpans", inPlace := ["internal/bytealg.abigen_runtime_cmpstring"], unfollowed := true, recurses := true, apart := false, narrowed := true }
def MemSpansUptoSaid : Prop := memSpansUptoRow.holds Try.pinned (OpenSpec.upto memSpansSpec)

/-- 'rickyardlaw12.MemRows', WHERE WHAT IT READS IS OF BULK AT MOST 1048576: true; the input reads as it did. -/
def memRowsUptoRow : OpenClaim := { program := "ytigbeicihenolaa", sum := "1961bb4cef8b17c5fbafb20d943ab34d0fd04934eac52e3f4de025709c25c5f9", func := "rickyard/rickyardlaw12.MemRows", spec := "memRows", inPlace := ["internal/bytealg.abigen_runtime_cmpstring"], unfollowed := true, recurses := true, apart := false, narrowed := true }
def MemRowsUptoSaid : Prop := memRowsUptoRow.holds Try.pinned (OpenSpec.upto memRowsSpec)

/-- 'rickyardlaw12.MemPuts', WHERE WHAT IT READS IS OF BULK AT MOST 1048576: true; the input reads as it did. -/
def memPutsUptoRow : OpenClaim := { program := "ytigbeicihenolaa", sum := "1961bb4cef8b17c5fbafb20d943ab34d0fd04934eac52e3f4de025709c25c5f9", func := "rickyard/rickyardlaw12.MemPuts", spec := "memPuts", inPlace := ["internal/bytealg.abigen_runtime_cmpstring"], unfollowed := true, recurses := true, apart := false, narrowed := true }
def MemPutsUptoSaid : Prop := memPutsUptoRow.holds Try.pinned (OpenSpec.upto memPutsSpec)

/-- 'rickyardlaw12.MemOrder', WHERE WHAT IT READS IS OF BULK AT MOST 1048576: true; the input reads as it did. -/
def memOrderUptoRow : OpenClaim := { program := "ytigbeicihenolaa", sum := "1961bb4cef8b17c5fbafb20d943ab34d0fd04934eac52e3f4de025709c25c5f9", func := "rickyard/rickyardlaw12.MemOrder", spec := "memOrder", inPlace := ["internal/bytealg.abigen_runtime_cmpstring"], unfollowed := true, recurses := true, apart := false, narrowed := true }
def MemOrderUptoSaid : Prop := memOrderUptoRow.holds Try.pinned (OpenSpec.upto memOrderSpec)

end Rows
end Go.Proofs.Ytigbeicihenolaa
