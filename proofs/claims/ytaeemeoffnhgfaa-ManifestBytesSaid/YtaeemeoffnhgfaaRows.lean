/-
  No cell of these rows narrows 'for every input' (looked for: loops, veiled, ifaces, maps, wideKeys, modest, calm, conditions, laid).
  DERIVED. THE GIVEN ROWS OF THIS SEAT. 6 by the template 'for every input the law returns true; each argument reads behind the call as it read before'; 0 by the template 'total and deterministic' (their statements: YtaeemeoffnhgfaaTotals.lean).
  GIVEN WITH THE SEED: the statements are not yours to turn. If you find one false, say at which input.
  Laid BY PROGRAM, IN A SANDBOX (cutbox-rows.mjs): the forced cells as the released guide's own fill.sh prints them over the translation a514556385685d34… (all of the seat's roots in one cut). By AI agents, Wed Nov 11 2026. No macro, syntax, notation, axiom, sorry.
-/
import Derived.Test.YtaeemeoffnhgfaaChecked
import GoSem.Claim
import GoSem.ClaimJoined
import GoSem.ClaimMapViews
import Derived.JoinedTies
import Derived.KernelRfl
namespace Go.Proofs.Ytaeemeoffnhgfaa
/- THE CELL 'sum', in the pinned program and in every row, IS THE sha256 OF THE DUMP (.gsa) THAT YtaeemeoffnhgfaaProg.lean LOADS. Nothing in Lean hashes anything: it is a label: what it is worth is what the hold of that sum in a sandbox is worth. -/
noncomputable def Try.pinned : Pinned := { name := "ytaeemeoffnhgfaa", sum := "a514556385685d34d9044267f9454bbe885ae78910ba8db336b74e4ad33a5c84", checked := Try.checked }
namespace Rows
def none {H : Type} : Left H := { results := [], args := [] }

/-- 'rickyardlaw13.ManifestSwaps': WHATEVER THE INPUT: true; the input reads as it did. -/
def manifestSwapsSpec : ChangeSpec := { name := "manifestSwaps", fn := fun _ => fun
  | [d1, d2] => { results := [.lit (.bool true)], args := [d1, d2] }
  | _ => none }
def manifestSwapsRow : OpenClaim := { program := "ytaeemeoffnhgfaa", sum := "a514556385685d34d9044267f9454bbe885ae78910ba8db336b74e4ad33a5c84", func := "rickyard/rickyardlaw13.ManifestSwaps", spec := "manifestSwaps", inPlace := ["internal/bytealg.abigen_runtime_cmpstring"], unfollowed := true, recurses := true, apart := false }
def ManifestSwapsSaid : Prop := manifestSwapsRow.holds Try.pinned (OpenSpec.ofChange manifestSwapsSpec)

/-- ITS FALSE NEIGHBOUR: 'it returns false'. Refute it at one input. -/
def manifestSwapsWrong : ChangeSpec := { name := "manifestSwaps", fn := fun _ => fun
  | [d1, d2] => { results := [.lit (.bool false)], args := [d1, d2] }
  | _ => none }
def ManifestSwapsWrongFalsely : Prop := manifestSwapsRow.holds Try.pinned (OpenSpec.ofChange manifestSwapsWrong)

/-- 'rickyardlaw13.ManifestErrors': WHATEVER THE INPUT: true; the input reads as it did. -/
def manifestErrorsSpec : ChangeSpec := { name := "manifestErrors", fn := fun _ => fun
  | [d1, d2, d3, d4] => { results := [.lit (.bool true)], args := [d1, d2, d3, d4] }
  | _ => none }
def manifestErrorsRow : OpenClaim := { program := "ytaeemeoffnhgfaa", sum := "a514556385685d34d9044267f9454bbe885ae78910ba8db336b74e4ad33a5c84", func := "rickyard/rickyardlaw13.ManifestErrors", spec := "manifestErrors", inPlace := ["internal/bytealg.abigen_runtime_cmpstring"], unfollowed := true, recurses := true, apart := false }
def ManifestErrorsSaid : Prop := manifestErrorsRow.holds Try.pinned (OpenSpec.ofChange manifestErrorsSpec)

/-- ITS FALSE NEIGHBOUR: 'it returns false'. Refute it at one input. -/
def manifestErrorsWrong : ChangeSpec := { name := "manifestErrors", fn := fun _ => fun
  | [d1, d2, d3, d4] => { results := [.lit (.bool false)], args := [d1, d2, d3, d4] }
  | _ => none }
def ManifestErrorsWrongFalsely : Prop := manifestErrorsRow.holds Try.pinned (OpenSpec.ofChange manifestErrorsWrong)

/-- 'rickyardlaw13.ManifestApplies': WHATEVER THE INPUT: true; the input reads as it did. -/
def manifestAppliesSpec : ChangeSpec := { name := "manifestApplies", fn := fun _ => fun
  | [d1, d2, d3, d4, d5] => { results := [.lit (.bool true)], args := [d1, d2, d3, d4, d5] }
  | _ => none }
def manifestAppliesRow : OpenClaim := { program := "ytaeemeoffnhgfaa", sum := "a514556385685d34d9044267f9454bbe885ae78910ba8db336b74e4ad33a5c84", func := "rickyard/rickyardlaw13.ManifestApplies", spec := "manifestApplies", inPlace := ["internal/bytealg.abigen_runtime_cmpstring"], unfollowed := true, recurses := true, apart := false }
def ManifestAppliesSaid : Prop := manifestAppliesRow.holds Try.pinned (OpenSpec.ofChange manifestAppliesSpec)

/-- ITS FALSE NEIGHBOUR: 'it returns false'. Refute it at one input. -/
def manifestAppliesWrong : ChangeSpec := { name := "manifestApplies", fn := fun _ => fun
  | [d1, d2, d3, d4, d5] => { results := [.lit (.bool false)], args := [d1, d2, d3, d4, d5] }
  | _ => none }
def ManifestAppliesWrongFalsely : Prop := manifestAppliesRow.holds Try.pinned (OpenSpec.ofChange manifestAppliesWrong)

/-- 'rickyardlaw13.ManifestOnce': WHATEVER THE INPUT: true; the input reads as it did. -/
def manifestOnceSpec : ChangeSpec := { name := "manifestOnce", fn := fun _ => fun
  | [d1, d2] => { results := [.lit (.bool true)], args := [d1, d2] }
  | _ => none }
def manifestOnceRow : OpenClaim := { program := "ytaeemeoffnhgfaa", sum := "a514556385685d34d9044267f9454bbe885ae78910ba8db336b74e4ad33a5c84", func := "rickyard/rickyardlaw13.ManifestOnce", spec := "manifestOnce", inPlace := ["internal/bytealg.abigen_runtime_cmpstring"], unfollowed := true, recurses := true, apart := false }
def ManifestOnceSaid : Prop := manifestOnceRow.holds Try.pinned (OpenSpec.ofChange manifestOnceSpec)

/-- ITS FALSE NEIGHBOUR: 'it returns false'. Refute it at one input. -/
def manifestOnceWrong : ChangeSpec := { name := "manifestOnce", fn := fun _ => fun
  | [d1, d2] => { results := [.lit (.bool false)], args := [d1, d2] }
  | _ => none }
def ManifestOnceWrongFalsely : Prop := manifestOnceRow.holds Try.pinned (OpenSpec.ofChange manifestOnceWrong)

/-- 'rickyardlaw13.ManifestFinds': WHATEVER THE INPUT: true; the input reads as it did. -/
def manifestFindsSpec : ChangeSpec := { name := "manifestFinds", fn := fun _ => fun
  | [d1, d2] => { results := [.lit (.bool true)], args := [d1, d2] }
  | _ => none }
def manifestFindsRow : OpenClaim := { program := "ytaeemeoffnhgfaa", sum := "a514556385685d34d9044267f9454bbe885ae78910ba8db336b74e4ad33a5c84", func := "rickyard/rickyardlaw13.ManifestFinds", spec := "manifestFinds", inPlace := ["internal/bytealg.abigen_runtime_cmpstring"], unfollowed := true, recurses := true, apart := false }
def ManifestFindsSaid : Prop := manifestFindsRow.holds Try.pinned (OpenSpec.ofChange manifestFindsSpec)

/-- ITS FALSE NEIGHBOUR: 'it returns false'. Refute it at one input. -/
def manifestFindsWrong : ChangeSpec := { name := "manifestFinds", fn := fun _ => fun
  | [d1, d2] => { results := [.lit (.bool false)], args := [d1, d2] }
  | _ => none }
def ManifestFindsWrongFalsely : Prop := manifestFindsRow.holds Try.pinned (OpenSpec.ofChange manifestFindsWrong)

/-- 'rickyardlaw13.ManifestBytes': WHATEVER THE INPUT: true; the input reads as it did. -/
def manifestBytesSpec : ChangeSpec := { name := "manifestBytes", fn := fun _ => fun
  | [d1, d2] => { results := [.lit (.bool true)], args := [d1, d2] }
  | _ => none }
def manifestBytesRow : OpenClaim := { program := "ytaeemeoffnhgfaa", sum := "a514556385685d34d9044267f9454bbe885ae78910ba8db336b74e4ad33a5c84", func := "rickyard/rickyardlaw13.ManifestBytes", spec := "manifestBytes", inPlace := ["internal/bytealg.abigen_runtime_cmpstring", "internal/abi.NoEscape", "internal/bytealg.MakeNoZero"], unfollowed := true, recurses := true, apart := false }
def ManifestBytesSaid : Prop := manifestBytesRow.holds Try.pinned (OpenSpec.ofChange manifestBytesSpec)

/-- ITS FALSE NEIGHBOUR: 'it returns false'. Refute it at one input. -/
def manifestBytesWrong : ChangeSpec := { name := "manifestBytes", fn := fun _ => fun
  | [d1, d2] => { results := [.lit (.bool false)], args := [d1, d2] }
  | _ => none }
def ManifestBytesWrongFalsely : Prop := manifestBytesRow.holds Try.pinned (OpenSpec.ofChange manifestBytesWrong)

/- THE SECOND FORM. 'bulk': how many values and letters a reading holds, each counted each time it is reached (what is shared counts as often as it is met; a slice's spare places count too). A statement '..UptoSaid' is the law's where the arguments, and the package variables that the reading takes, are together of bulk at most 1048576: NARROWER than '..Said'. Prove '..Said' where nothing that the law and all that it calls make is longer than what came in: it says more and counts as full. Else prove '..UptoSaid'. A law counts once. -/
mutual
def uptoBulk {H : Type} : DataW H → Nat
  | .lit (.string bytes) => bytes.length + 1
  | .lit _ => 1
  | .nil => 1
  | .ptr d => uptoBulk d + 1
  | .slice elems spare => uptoBulkAll elems + uptoBulkAll spare + 1
  | .agg parts => uptoBulkAll parts + 1
  | .iface _ d => uptoBulk d + 1
  | .map entries => uptoBulkEntries entries + 1
  | .held _ => 1
def uptoBulkAll {H : Type} : List (DataW H) → Nat
  | [] => 0
  | d :: r => uptoBulk d + uptoBulkAll r
def uptoBulkEntries {H : Type} : List (Lit × DataW H) → Nat
  | [] => 0
  | x :: r => uptoBulkEntry x + uptoBulkEntries r
def uptoBulkEntry {H : Type} : Lit × DataW H → Nat
  | (.string bytes, d) => bytes.length + uptoBulk d + 1
  | (_, d) => uptoBulk d + 1
 end
def uptoSmall : (H : Type) → List (DataW H) → Bool := fun _ ds => decide (uptoBulkAll ds ≤ 1048576)
def OpenSpec.upto (s : _root_.Go.ChangeSpec) : _root_.Go.OpenSpec := { _root_.Go.OpenSpec.ofChange s with cond := some uptoSmall }

/-- 'rickyardlaw13.ManifestSwaps', WHERE WHAT IT READS IS OF BULK AT MOST 1048576: true; the input reads as it did. -/
def manifestSwapsUptoRow : OpenClaim := { program := "ytaeemeoffnhgfaa", sum := "a514556385685d34d9044267f9454bbe885ae78910ba8db336b74e4ad33a5c84", func := "rickyard/rickyardlaw13.ManifestSwaps", spec := "manifestSwaps", inPlace := ["internal/bytealg.abigen_runtime_cmpstring"], unfollowed := true, recurses := true, apart := false, narrowed := true }
def ManifestSwapsUptoSaid : Prop := manifestSwapsUptoRow.holds Try.pinned (OpenSpec.upto manifestSwapsSpec)

/-- 'rickyardlaw13.ManifestErrors', WHERE WHAT IT READS IS OF BULK AT MOST 1048576: true; the input reads as it did. -/
def manifestErrorsUptoRow : OpenClaim := { program := "ytaeemeoffnhgfaa", sum := "a514556385685d34d9044267f9454bbe885ae78910ba8db336b74e4ad33a5c84", func := "rickyard/rickyardlaw13.ManifestErrors", spec := "manifestErrors", inPlace := ["internal/bytealg.abigen_runtime_cmpstring"], unfollowed := true, recurses := true, apart := false, narrowed := true }
def ManifestErrorsUptoSaid : Prop := manifestErrorsUptoRow.holds Try.pinned (OpenSpec.upto manifestErrorsSpec)

/-- 'rickyardlaw13.ManifestApplies', WHERE WHAT IT READS IS OF BULK AT MOST 1048576: true; the input reads as it did. -/
def manifestAppliesUptoRow : OpenClaim := { program := "ytaeemeoffnhgfaa", sum := "a514556385685d34d9044267f9454bbe885ae78910ba8db336b74e4ad33a5c84", func := "rickyard/rickyardlaw13.ManifestApplies", spec := "manifestApplies", inPlace := ["internal/bytealg.abigen_runtime_cmpstring"], unfollowed := true, recurses := true, apart := false, narrowed := true }
def ManifestAppliesUptoSaid : Prop := manifestAppliesUptoRow.holds Try.pinned (OpenSpec.upto manifestAppliesSpec)

/-- 'rickyardlaw13.ManifestOnce', WHERE WHAT IT READS IS OF BULK AT MOST 1048576: true; the input reads as it did. -/
def manifestOnceUptoRow : OpenClaim := { program := "ytaeemeoffnhgfaa", sum := "a514556385685d34d9044267f9454bbe885ae78910ba8db336b74e4ad33a5c84", func := "rickyard/rickyardlaw13.ManifestOnce", spec := "manifestOnce", inPlace := ["internal/bytealg.abigen_runtime_cmpstring"], unfollowed := true, recurses := true, apart := false, narrowed := true }
def ManifestOnceUptoSaid : Prop := manifestOnceUptoRow.holds Try.pinned (OpenSpec.upto manifestOnceSpec)

/-- 'rickyardlaw13.ManifestFinds', WHERE WHAT IT READS IS OF BULK AT MOST 1048576: true; the input reads as it did. -/
def manifestFindsUptoRow : OpenClaim := { program := "ytaeemeoffnhgfaa", sum := "a514556385685d34d9044267f9454bbe885ae78910ba8db336b74e4ad33a5c84", func := "rickyard/rickyardlaw13.ManifestFinds", spec := "manifestFinds", inPlace := ["internal/bytealg.abigen_runtime_cmpstring"], unfollowed := true, recurses := true, apart := false, narrowed := true }
def ManifestFindsUptoSaid : Prop := manifestFindsUptoRow.holds Try.pinned (OpenSpec.upto manifestFindsSpec)

/-- 'rickyardlaw13.ManifestBytes', WHERE WHAT IT READS IS OF BULK AT MOST 1048576: true; the input reads as it did. -/
def manifestBytesUptoRow : OpenClaim := { program := "ytaeemeoffnhgfaa", sum := "a514556385685d34d9044267f9454bbe885ae78910ba8db336b74e4ad33a5c84", func := "rickyard/rickyardlaw13.ManifestBytes", spec := "manifestBytes", inPlace := ["internal/bytealg.abigen_runtime_cmpstring", "internal/abi.NoEscape", "internal/bytealg.MakeNoZero"], unfollowed := true, recurses := true, apart := false, narrowed := true }
def ManifestBytesUptoSaid : Prop := manifestBytesUptoRow.holds Try.pinned (OpenSpec.upto manifestBytesSpec)

end Rows
end Go.Proofs.Ytaeemeoffnhgfaa
