/-
  No cell of these rows narrows 'for every input' (looked for: loops, veiled, ifaces, maps, wideKeys, modest, calm, conditions, laid).
  DERIVED. THE GIVEN ROWS OF THIS SEAT. 5 by the template 'for every input the law returns true; each argument reads behind the call as it read before'; 0 by the template 'total and deterministic' (their statements: YtflppcgonbjnmaaTotals.lean).
  GIVEN WITH THE SEED: the statements are not yours to turn. If you find one false, say at which input.
  Laid BY PROGRAM, IN A SANDBOX (cutbox-rows.mjs): the forced cells as the released guide's own fill.sh prints them over the translation b1c6eb2bf3813b2d… (all of the seat's roots in one cut). By AI agents, Wed Nov 11 2026. No macro, syntax, notation, axiom, sorry.
-/
import Derived.Test.YtflppcgonbjnmaaChecked
import GoSem.Claim
import GoSem.ClaimJoined
import GoSem.ClaimMapViews
import Derived.JoinedTies
import Derived.KernelRfl
namespace Go.Proofs.Ytflppcgonbjnmaa
/- THE CELL 'sum', in the pinned program and in every row, IS THE sha256 OF THE DUMP (.gsa) THAT YtflppcgonbjnmaaProg.lean LOADS. Nothing in Lean hashes anything: it is a label: what it is worth is what the hold of that sum in a sandbox is worth. -/
noncomputable def Try.pinned : Pinned := { name := "ytflppcgonbjnmaa", sum := "b1c6eb2bf3813b2dd327a107fb7994ce6f93669402f6fb0db37a19589a32a0db", checked := Try.checked }
namespace Rows
def none {H : Type} : Left H := { results := [], args := [] }

/-- 'rickyardlaw09.MergeSorts': WHATEVER THE INPUT: true; the input reads as it did. -/
def mergeSortsSpec : ChangeSpec := { name := "mergeSorts", fn := fun _ => fun
  | [d1, d2, d3] => { results := [.lit (.bool true)], args := [d1, d2, d3] }
  | _ => none }
def mergeSortsRow : OpenClaim := { program := "ytflppcgonbjnmaa", sum := "b1c6eb2bf3813b2dd327a107fb7994ce6f93669402f6fb0db37a19589a32a0db", func := "rickyard/rickyardlaw09.MergeSorts", spec := "mergeSorts", inPlace := ["internal/bytealg.abigen_runtime_cmpstring"], unfollowed := true, recurses := true, apart := false }
def MergeSortsSaid : Prop := mergeSortsRow.holds Try.pinned (OpenSpec.ofChange mergeSortsSpec)

/-- ITS FALSE NEIGHBOUR: 'it returns false'. Refute it at one input. -/
def mergeSortsWrong : ChangeSpec := { name := "mergeSorts", fn := fun _ => fun
  | [d1, d2, d3] => { results := [.lit (.bool false)], args := [d1, d2, d3] }
  | _ => none }
def MergeSortsWrongFalsely : Prop := mergeSortsRow.holds Try.pinned (OpenSpec.ofChange mergeSortsWrong)

/-- 'rickyardlaw09.MergePasses': WHATEVER THE INPUT: true; the input reads as it did. -/
def mergePassesSpec : ChangeSpec := { name := "mergePasses", fn := fun _ => fun
  | [d1, d2] => { results := [.lit (.bool true)], args := [d1, d2] }
  | _ => none }
def mergePassesRow : OpenClaim := { program := "ytflppcgonbjnmaa", sum := "b1c6eb2bf3813b2dd327a107fb7994ce6f93669402f6fb0db37a19589a32a0db", func := "rickyard/rickyardlaw09.MergePasses", spec := "mergePasses", inPlace := ["internal/bytealg.abigen_runtime_cmpstring"], unfollowed := true, recurses := true, apart := false }
def MergePassesSaid : Prop := mergePassesRow.holds Try.pinned (OpenSpec.ofChange mergePassesSpec)

/-- ITS FALSE NEIGHBOUR: 'it returns false'. Refute it at one input. -/
def mergePassesWrong : ChangeSpec := { name := "mergePasses", fn := fun _ => fun
  | [d1, d2] => { results := [.lit (.bool false)], args := [d1, d2] }
  | _ => none }
def MergePassesWrongFalsely : Prop := mergePassesRow.holds Try.pinned (OpenSpec.ofChange mergePassesWrong)

/-- 'rickyardlaw09.MergeAlike': WHATEVER THE INPUT: true; the input reads as it did. -/
def mergeAlikeSpec : ChangeSpec := { name := "mergeAlike", fn := fun _ => fun
  | [d1, d2, d3, d4, d5] => { results := [.lit (.bool true)], args := [d1, d2, d3, d4, d5] }
  | _ => none }
def mergeAlikeRow : OpenClaim := { program := "ytflppcgonbjnmaa", sum := "b1c6eb2bf3813b2dd327a107fb7994ce6f93669402f6fb0db37a19589a32a0db", func := "rickyard/rickyardlaw09.MergeAlike", spec := "mergeAlike", inPlace := ["internal/bytealg.abigen_runtime_cmpstring"], unfollowed := true, recurses := true, apart := false }
def MergeAlikeSaid : Prop := mergeAlikeRow.holds Try.pinned (OpenSpec.ofChange mergeAlikeSpec)

/-- ITS FALSE NEIGHBOUR: 'it returns false'. Refute it at one input. -/
def mergeAlikeWrong : ChangeSpec := { name := "mergeAlike", fn := fun _ => fun
  | [d1, d2, d3, d4, d5] => { results := [.lit (.bool false)], args := [d1, d2, d3, d4, d5] }
  | _ => none }
def MergeAlikeWrongFalsely : Prop := mergeAlikeRow.holds Try.pinned (OpenSpec.ofChange mergeAlikeWrong)

/-- 'rickyardlaw09.MergeLast': WHATEVER THE INPUT: true; the input reads as it did. -/
def mergeLastSpec : ChangeSpec := { name := "mergeLast", fn := fun _ => fun
  | [d1, d2, d3] => { results := [.lit (.bool true)], args := [d1, d2, d3] }
  | _ => none }
def mergeLastRow : OpenClaim := { program := "ytflppcgonbjnmaa", sum := "b1c6eb2bf3813b2dd327a107fb7994ce6f93669402f6fb0db37a19589a32a0db", func := "rickyard/rickyardlaw09.MergeLast", spec := "mergeLast", inPlace := ["internal/bytealg.abigen_runtime_cmpstring"], unfollowed := true, recurses := true, apart := false }
def MergeLastSaid : Prop := mergeLastRow.holds Try.pinned (OpenSpec.ofChange mergeLastSpec)

/-- ITS FALSE NEIGHBOUR: 'it returns false'. Refute it at one input. -/
def mergeLastWrong : ChangeSpec := { name := "mergeLast", fn := fun _ => fun
  | [d1, d2, d3] => { results := [.lit (.bool false)], args := [d1, d2, d3] }
  | _ => none }
def MergeLastWrongFalsely : Prop := mergeLastRow.holds Try.pinned (OpenSpec.ofChange mergeLastWrong)

/-- 'rickyardlaw09.MergeMany': WHATEVER THE INPUT: true; the input reads as it did. -/
def mergeManySpec : ChangeSpec := { name := "mergeMany", fn := fun _ => fun
  | [d1, d2] => { results := [.lit (.bool true)], args := [d1, d2] }
  | _ => none }
def mergeManyRow : OpenClaim := { program := "ytflppcgonbjnmaa", sum := "b1c6eb2bf3813b2dd327a107fb7994ce6f93669402f6fb0db37a19589a32a0db", func := "rickyard/rickyardlaw09.MergeMany", spec := "mergeMany", inPlace := ["internal/bytealg.abigen_runtime_cmpstring"], unfollowed := true, recurses := true, apart := false }
def MergeManySaid : Prop := mergeManyRow.holds Try.pinned (OpenSpec.ofChange mergeManySpec)

/-- ITS FALSE NEIGHBOUR: 'it returns false'. Refute it at one input. -/
def mergeManyWrong : ChangeSpec := { name := "mergeMany", fn := fun _ => fun
  | [d1, d2] => { results := [.lit (.bool false)], args := [d1, d2] }
  | _ => none }
def MergeManyWrongFalsely : Prop := mergeManyRow.holds Try.pinned (OpenSpec.ofChange mergeManyWrong)

/- THE SECOND FORM. 'bulk': how many values and letters a reading holds, each counted each time it is reached (what is shared counts as often as it is met; a slice's spare places count too). A statement '..UptoSaid' is the law's where the arguments, and the package variables that the reading takes, are together of bulk at most 1048576: NARROWER than '..Said'. Prove '..Said' where nothing that the law and all that it calls make is longer than what came in: it says more and counts as full. Else prove '..UptoSaid'. A law counts once. -/
mutual
def uptoBulk {H : Type} : DataW H → Nat
  | .lit (.string bytes) => bytes.length + 1
  | .lit _ => 1
  | .nil => 1
  | .ptr d => uptoBulk d + 1
  | .slice elems spare => uptoBulkAll elems + uptoBulkAll spare + 1
  | .agg parts => uptoBulkAll parts + 1
  | .iface _ d => uptoBulk d + 1
  | .map entries => uptoBulkEntries entries + 1
  | .held _ => 1
def uptoBulkAll {H : Type} : List (DataW H) → Nat
  | [] => 0
  | d :: r => uptoBulk d + uptoBulkAll r
def uptoBulkEntries {H : Type} : List (Lit × DataW H) → Nat
  | [] => 0
  | x :: r => uptoBulkEntry x + uptoBulkEntries r
def uptoBulkEntry {H : Type} : Lit × DataW H → Nat
  | (.string bytes, d) => bytes.length + uptoBulk d + 1
  | (_, d) => uptoBulk d + 1
 end
def uptoSmall : (H : Type) → List (DataW H) → Bool := fun _ ds => decide (uptoBulkAll ds ≤ 1048576)
def OpenSpec.upto (s : _root_.Go.ChangeSpec) : _root_.Go.OpenSpec := { _root_.Go.OpenSpec.ofChange s with cond := some uptoSmall }

/-- 'rickyardlaw09.MergeSorts', WHERE WHAT IT READS IS OF BULK AT MOST 1048576: true; the input reads as it did. -/
def mergeSortsUptoRow : OpenClaim := { program := "ytflppcgonbjnmaa", sum := "b1c6eb2bf3813b2dd327a107fb7994ce6f93669402f6fb0db37a19589a32a0db", func := "rickyard/rickyardlaw09.MergeSorts", spec := "mergeSorts", inPlace := ["internal/bytealg.abigen_runtime_cmpstring"], unfollowed := true, recurses := true, apart := false, narrowed := true }
def MergeSortsUptoSaid : Prop := mergeSortsUptoRow.holds Try.pinned (OpenSpec.upto mergeSortsSpec)

/-- 'rickyardlaw09.MergePasses', WHERE WHAT IT READS IS OF BULK AT MOST 1048576: true; the input reads as it did. -/
def mergePassesUptoRow : OpenClaim := { program := "ytflppcgonbjnmaa", sum := "b1c6eb2bf3813b2dd327a107fb7994ce6f93669402f6fb0db37a19589a32a0db", func := "rickyard/rickyardlaw09.MergePasses", spec := "mergePasses", inPlace := ["internal/bytealg.abigen_runtime_cmpstring"], unfollowed := true, recurses := true, apart := false, narrowed := true }
def MergePassesUptoSaid : Prop := mergePassesUptoRow.holds Try.pinned (OpenSpec.upto mergePassesSpec)

/-- 'rickyardlaw09.MergeAlike', WHERE WHAT IT READS IS OF BULK AT MOST 1048576: true; the input reads as it did. -/
def mergeAlikeUptoRow : OpenClaim := { program := "ytflppcgonbjnmaa", sum := "b1c6eb2bf3813b2dd327a107fb7994ce6f93669402f6fb0db37a19589a32a0db", func := "rickyard/rickyardlaw09.MergeAlike", spec := "mergeAlike", inPlace := ["internal/bytealg.abigen_runtime_cmpstring"], unfollowed := true, recurses := true, apart := false, narrowed := true }
def MergeAlikeUptoSaid : Prop := mergeAlikeUptoRow.holds Try.pinned (OpenSpec.upto mergeAlikeSpec)

/-- 'rickyardlaw09.MergeLast', WHERE WHAT IT READS IS OF BULK AT MOST 1048576: true; the input reads as it did. -/
def mergeLastUptoRow : OpenClaim := { program := "ytflppcgonbjnmaa", sum := "b1c6eb2bf3813b2dd327a107fb7994ce6f93669402f6fb0db37a19589a32a0db", func := "rickyard/rickyardlaw09.MergeLast", spec := "mergeLast", inPlace := ["internal/bytealg.abigen_runtime_cmpstring"], unfollowed := true, recurses := true, apart := false, narrowed := true }
def MergeLastUptoSaid : Prop := mergeLastUptoRow.holds Try.pinned (OpenSpec.upto mergeLastSpec)

/-- 'rickyardlaw09.MergeMany', WHERE WHAT IT READS IS OF BULK AT MOST 1048576: true; the input reads as it did. -/
def mergeManyUptoRow : OpenClaim := { program := "ytflppcgonbjnmaa", sum := "b1c6eb2bf3813b2dd327a107fb7994ce6f93669402f6fb0db37a19589a32a0db", func := "rickyard/rickyardlaw09.MergeMany", spec := "mergeMany", inPlace := ["internal/bytealg.abigen_runtime_cmpstring"], unfollowed := true, recurses := true, apart := false, narrowed := true }
def MergeManyUptoSaid : Prop := mergeManyUptoRow.holds Try.pinned (OpenSpec.upto mergeManySpec)

end Rows
end Go.Proofs.Ytflppcgonbjnmaa
