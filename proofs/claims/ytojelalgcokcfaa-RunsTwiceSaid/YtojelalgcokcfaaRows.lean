/-
  No cell of these rows narrows 'for every input' (looked for: loops, veiled, ifaces, maps, wideKeys, modest, calm, conditions, laid).
  DERIVED. THE GIVEN ROWS OF THIS SEAT. 5 by the template 'for every input the law returns true; each argument reads behind the call as it read before'; 0 by the template 'total and deterministic' (their statements: YtojelalgcokcfaaTotals.lean).
  GIVEN WITH THE SEED: the statements are not yours to turn. If you find one false, say at which input.
  Laid BY PROGRAM, IN A SANDBOX (cutbox-rows.mjs): the forced cells as the released guide's own fill.sh prints them over the translation d14ab1887b6d607c… (all of the seat's roots in one cut). By AI agents, Wed Nov 11 2026. No macro, syntax, notation, axiom, sorry.
-/
import Derived.Test.YtojelalgcokcfaaChecked
import GoSem.Claim
import GoSem.ClaimJoined
import GoSem.ClaimMapViews
import Derived.JoinedTies
import Derived.KernelRfl
namespace Go.Proofs.Ytojelalgcokcfaa
/- THE CELL 'sum', in the pinned program and in every row, IS THE sha256 OF THE DUMP (.gsa) THAT YtojelalgcokcfaaProg.lean LOADS. Nothing in Lean hashes anything: it is a label: what it is worth is what the hold of that sum in a sandbox is worth. -/
noncomputable def Try.pinned : Pinned := { name := "ytojelalgcokcfaa", sum := "d14ab1887b6d607cbd307dfa0640c8c33e833c7ead26e82e2a8ce055b925a5bf", checked := Try.checked }
namespace Rows
def none {H : Type} : Left H := { results := [], args := [] }

/-- 'rickyardlaw08.RunsMakes': WHATEVER THE INPUT: true; the input reads as it did. -/
def runsMakesSpec : ChangeSpec := { name := "runsMakes", fn := fun _ => fun
  | [d1, d2] => { results := [.lit (.bool true)], args := [d1, d2] }
  | _ => none }
def runsMakesRow : OpenClaim := { program := "ytojelalgcokcfaa", sum := "d14ab1887b6d607cbd307dfa0640c8c33e833c7ead26e82e2a8ce055b925a5bf", func := "rickyard/rickyardlaw08.RunsMakes", spec := "runsMakes", inPlace := ["internal/bytealg.abigen_runtime_cmpstring"], unfollowed := true, recurses := true, apart := false }
def RunsMakesSaid : Prop := runsMakesRow.holds Try.pinned (OpenSpec.ofChange runsMakesSpec)

/-- ITS FALSE NEIGHBOUR: 'it returns false'. Refute it at one input. -/
def runsMakesWrong : ChangeSpec := { name := "runsMakes", fn := fun _ => fun
  | [d1, d2] => { results := [.lit (.bool false)], args := [d1, d2] }
  | _ => none }
def RunsMakesWrongFalsely : Prop := runsMakesRow.holds Try.pinned (OpenSpec.ofChange runsMakesWrong)

/-- 'rickyardlaw08.RunsWhole': WHATEVER THE INPUT: true; the input reads as it did. -/
def runsWholeSpec : ChangeSpec := { name := "runsWhole", fn := fun _ => fun
  | [d1, d2] => { results := [.lit (.bool true)], args := [d1, d2] }
  | _ => none }
def runsWholeRow : OpenClaim := { program := "ytojelalgcokcfaa", sum := "d14ab1887b6d607cbd307dfa0640c8c33e833c7ead26e82e2a8ce055b925a5bf", func := "rickyard/rickyardlaw08.RunsWhole", spec := "runsWhole", inPlace := ["internal/bytealg.abigen_runtime_cmpstring"], unfollowed := true, recurses := true, apart := false }
def RunsWholeSaid : Prop := runsWholeRow.holds Try.pinned (OpenSpec.ofChange runsWholeSpec)

/-- ITS FALSE NEIGHBOUR: 'it returns false'. Refute it at one input. -/
def runsWholeWrong : ChangeSpec := { name := "runsWhole", fn := fun _ => fun
  | [d1, d2] => { results := [.lit (.bool false)], args := [d1, d2] }
  | _ => none }
def RunsWholeWrongFalsely : Prop := runsWholeRow.holds Try.pinned (OpenSpec.ofChange runsWholeWrong)

/-- 'rickyardlaw08.RunsTwice': WHATEVER THE INPUT: true; the input reads as it did. -/
def runsTwiceSpec : ChangeSpec := { name := "runsTwice", fn := fun _ => fun
  | [d] => { results := [.lit (.bool true)], args := [d] }
  | _ => none }
def runsTwiceRow : OpenClaim := { program := "ytojelalgcokcfaa", sum := "d14ab1887b6d607cbd307dfa0640c8c33e833c7ead26e82e2a8ce055b925a5bf", func := "rickyard/rickyardlaw08.RunsTwice", spec := "runsTwice", inPlace := ["internal/bytealg.abigen_runtime_cmpstring"], unfollowed := true, recurses := true, apart := false }
def RunsTwiceSaid : Prop := runsTwiceRow.holds Try.pinned (OpenSpec.ofChange runsTwiceSpec)

/-- ITS FALSE NEIGHBOUR: 'it returns false'. Refute it at one input. -/
def runsTwiceWrong : ChangeSpec := { name := "runsTwice", fn := fun _ => fun
  | [d] => { results := [.lit (.bool false)], args := [d] }
  | _ => none }
def RunsTwiceWrongFalsely : Prop := runsTwiceRow.holds Try.pinned (OpenSpec.ofChange runsTwiceWrong)

/-- 'rickyardlaw08.RunsResolves': WHATEVER THE INPUT: true; the input reads as it did. -/
def runsResolvesSpec : ChangeSpec := { name := "runsResolves", fn := fun _ => fun
  | [d1, d2, d3] => { results := [.lit (.bool true)], args := [d1, d2, d3] }
  | _ => none }
def runsResolvesRow : OpenClaim := { program := "ytojelalgcokcfaa", sum := "d14ab1887b6d607cbd307dfa0640c8c33e833c7ead26e82e2a8ce055b925a5bf", func := "rickyard/rickyardlaw08.RunsResolves", spec := "runsResolves", inPlace := ["internal/bytealg.abigen_runtime_cmpstring"], unfollowed := true, recurses := true, apart := false }
def RunsResolvesSaid : Prop := runsResolvesRow.holds Try.pinned (OpenSpec.ofChange runsResolvesSpec)

/-- ITS FALSE NEIGHBOUR: 'it returns false'. Refute it at one input. -/
def runsResolvesWrong : ChangeSpec := { name := "runsResolves", fn := fun _ => fun
  | [d1, d2, d3] => { results := [.lit (.bool false)], args := [d1, d2, d3] }
  | _ => none }
def RunsResolvesWrongFalsely : Prop := runsResolvesRow.holds Try.pinned (OpenSpec.ofChange runsResolvesWrong)

/-- 'rickyardlaw08.RunsOrder': WHATEVER THE INPUT: true; the input reads as it did. -/
def runsOrderSpec : ChangeSpec := { name := "runsOrder", fn := fun _ => fun
  | [d1, d2, d3] => { results := [.lit (.bool true)], args := [d1, d2, d3] }
  | _ => none }
def runsOrderRow : OpenClaim := { program := "ytojelalgcokcfaa", sum := "d14ab1887b6d607cbd307dfa0640c8c33e833c7ead26e82e2a8ce055b925a5bf", func := "rickyard/rickyardlaw08.RunsOrder", spec := "runsOrder", inPlace := ["internal/bytealg.abigen_runtime_cmpstring"], unfollowed := true, recurses := true, apart := false }
def RunsOrderSaid : Prop := runsOrderRow.holds Try.pinned (OpenSpec.ofChange runsOrderSpec)

/-- ITS FALSE NEIGHBOUR: 'it returns false'. Refute it at one input. -/
def runsOrderWrong : ChangeSpec := { name := "runsOrder", fn := fun _ => fun
  | [d1, d2, d3] => { results := [.lit (.bool false)], args := [d1, d2, d3] }
  | _ => none }
def RunsOrderWrongFalsely : Prop := runsOrderRow.holds Try.pinned (OpenSpec.ofChange runsOrderWrong)

/- THE SECOND FORM. 'bulk': how many values and letters a reading holds, each counted each time it is reached (what is shared counts as often as it is met; a slice's spare places count too). A statement '..UptoSaid' is the law's where the arguments, and the package variables that the reading takes, are together of bulk at most 1048576: NARROWER than '..Said'. Prove '..Said' where nothing that the law and all that it calls make is longer than what came in: it says more and counts as full. Else prove '..UptoSaid'. A law counts once. -/
mutual
def uptoBulk {H : Type} : DataW H → Nat
  | .lit (.string bytes) => bytes.length + 1
  | .lit _ => 1
  | .nil => 1
  | .ptr d => uptoBulk d + 1
  | .slice elems spare => uptoBulkAll elems + uptoBulkAll spare + 1
  | .agg parts => uptoBulkAll parts + 1
  | .iface _ d => uptoBulk d + 1
  | .map entries => uptoBulkEntries entries + 1
  | .held _ => 1
def uptoBulkAll {H : Type} : List (DataW H) → Nat
  | [] => 0
  | d :: r => uptoBulk d + uptoBulkAll r
def uptoBulkEntries {H : Type} : List (Lit × DataW H) → Nat
  | [] => 0
  | x :: r => uptoBulkEntry x + uptoBulkEntries r
def uptoBulkEntry {H : Type} : Lit × DataW H → Nat
  | (.string bytes, d) => bytes.length + uptoBulk d + 1
  | (_, d) => uptoBulk d + 1
 end
def uptoSmall : (H : Type) → List (DataW H) → Bool := fun _ ds => decide (uptoBulkAll ds ≤ 1048576)
def OpenSpec.upto (s : _root_.Go.ChangeSpec) : _root_.Go.OpenSpec := { _root_.Go.OpenSpec.ofChange s with cond := some uptoSmall }

/-- 'rickyardlaw08.RunsMakes', WHERE WHAT IT READS IS OF BULK AT MOST 1048576: true; the input reads as it did. -/
def runsMakesUptoRow : OpenClaim := { program := "ytojelalgcokcfaa", sum := "d14ab1887b6d607cbd307dfa0640c8c33e833c7ead26e82e2a8ce055b925a5bf", func := "rickyard/rickyardlaw08.RunsMakes", spec := "runsMakes", inPlace := ["internal/bytealg.abigen_runtime_cmpstring"], unfollowed := true, recurses := true, apart := false, narrowed := true }
def RunsMakesUptoSaid : Prop := runsMakesUptoRow.holds Try.pinned (OpenSpec.upto runsMakesSpec)

/-- 'rickyardlaw08.RunsWhole', WHERE WHAT IT READS IS OF BULK AT MOST 1048576: true; the input reads as it did. -/
def runsWholeUptoRow : OpenClaim := { program := "ytojelalgcokcfaa", sum := "d14ab1887b6d607cbd307dfa0640c8c33e833c7ead26e82e2a8ce055b925a5bf", func := "rickyard/rickyardlaw08.RunsWhole", spec := "runsWhole", inPlace := ["internal/bytealg.abigen_runtime_cmpstring"], unfollowed := true, recurses := true, apart := false, narrowed := true }
def RunsWholeUptoSaid : Prop := runsWholeUptoRow.holds Try.pinned (OpenSpec.upto runsWholeSpec)

/-- 'rickyardlaw08.RunsTwice', WHERE WHAT IT READS IS OF BULK AT MOST 1048576: true; the input reads as it did. -/
def runsTwiceUptoRow : OpenClaim := { program := "ytojelalgcokcfaa", sum := "d14ab1887b6d607cbd307dfa0640c8c33e833c7ead26e82e2a8ce055b925a5bf", func := "rickyard/rickyardlaw08.RunsTwice", spec := "runsTwice", inPlace := ["internal/bytealg.abigen_runtime_cmpstring"], unfollowed := true, recurses := true, apart := false, narrowed := true }
def RunsTwiceUptoSaid : Prop := runsTwiceUptoRow.holds Try.pinned (OpenSpec.upto runsTwiceSpec)

/-- 'rickyardlaw08.RunsResolves', WHERE WHAT IT READS IS OF BULK AT MOST 1048576: true; the input reads as it did. -/
def runsResolvesUptoRow : OpenClaim := { program := "ytojelalgcokcfaa", sum := "d14ab1887b6d607cbd307dfa0640c8c33e833c7ead26e82e2a8ce055b925a5bf", func := "rickyard/rickyardlaw08.RunsResolves", spec := "runsResolves", inPlace := ["internal/bytealg.abigen_runtime_cmpstring"], unfollowed := true, recurses := true, apart := false, narrowed := true }
def RunsResolvesUptoSaid : Prop := runsResolvesUptoRow.holds Try.pinned (OpenSpec.upto runsResolvesSpec)

/-- 'rickyardlaw08.RunsOrder', WHERE WHAT IT READS IS OF BULK AT MOST 1048576: true; the input reads as it did. -/
def runsOrderUptoRow : OpenClaim := { program := "ytojelalgcokcfaa", sum := "d14ab1887b6d607cbd307dfa0640c8c33e833c7ead26e82e2a8ce055b925a5bf", func := "rickyard/rickyardlaw08.RunsOrder", spec := "runsOrder", inPlace := ["internal/bytealg.abigen_runtime_cmpstring"], unfollowed := true, recurses := true, apart := false, narrowed := true }
def RunsOrderUptoSaid : Prop := runsOrderUptoRow.holds Try.pinned (OpenSpec.upto runsOrderSpec)

end Rows
end Go.Proofs.Ytojelalgcokcfaa
