/-
  No cell of these rows narrows 'for every input' (looked for: loops, veiled, ifaces, maps, wideKeys, modest, calm, conditions, laid).
  DERIVED. THE GIVEN ROWS OF THIS SEAT. 7 by the template 'for every input the law returns true; each argument reads behind the call as it read before'; 0 by the template 'total and deterministic' (their statements: YtiiogdgnccgehaaTotals.lean).
  GIVEN WITH THE SEED: the statements are not yours to turn. If you find one false, say at which input.
  Laid BY PROGRAM, IN A SANDBOX (cutbox-rows.mjs): the forced cells as the released guide's own fill.sh prints them over the translation 04c8488d257721db… (all of the seat's roots in one cut). By AI agents, Wed Nov 11 2026. No macro, syntax, notation, axiom, sorry.
-/
import Derived.Test.YtiiogdgnccgehaaChecked
import GoSem.Claim
import GoSem.ClaimJoined
import GoSem.ClaimMapViews
import Derived.JoinedTies
import Derived.KernelRfl
namespace Go.Proofs.Ytiiogdgnccgehaa
/- THE CELL 'sum', in the pinned program and in every row, IS THE sha256 OF THE DUMP (.gsa) THAT YtiiogdgnccgehaaProg.lean LOADS. Nothing in Lean hashes anything: it is a label: what it is worth is what the hold of that sum in a sandbox is worth. -/
noncomputable def Try.pinned : Pinned := { name := "ytiiogdgnccgehaa", sum := "04c8488d257721dbda09c43637e60afc84d97a28d1af32d9e85902152365ce83", checked := Try.checked }
namespace Rows
def none {H : Type} : Left H := { results := [], args := [] }

/-- 'rickyardlaw19.TabletBytes': WHATEVER THE INPUT: true; the input reads as it did. -/
def tabletBytesSpec : ChangeSpec := { name := "tabletBytes", fn := fun _ => fun
  | [d1, d2] => { results := [.lit (.bool true)], args := [d1, d2] }
  | _ => none }
def tabletBytesRow : OpenClaim := { program := "ytiiogdgnccgehaa", sum := "04c8488d257721dbda09c43637e60afc84d97a28d1af32d9e85902152365ce83", func := "rickyard/rickyardlaw19.TabletBytes", spec := "tabletBytes", inPlace := ["internal/abi.NoEscape", "internal/bytealg.MakeNoZero", "slices.overlaps[string]"], unfollowed := true, recurses := true, plainKeys := false, apart := false }
def TabletBytesSaid : Prop := tabletBytesRow.holds Try.pinned (OpenSpec.ofChange tabletBytesSpec)

/-- ITS FALSE NEIGHBOUR: 'it returns false'. Refute it at one input. -/
def tabletBytesWrong : ChangeSpec := { name := "tabletBytes", fn := fun _ => fun
  | [d1, d2] => { results := [.lit (.bool false)], args := [d1, d2] }
  | _ => none }
def TabletBytesWrongFalsely : Prop := tabletBytesRow.holds Try.pinned (OpenSpec.ofChange tabletBytesWrong)

/-- 'rickyardlaw19.TabletApplies': WHATEVER THE INPUT: true; the input reads as it did. -/
def tabletAppliesSpec : ChangeSpec := { name := "tabletApplies", fn := fun _ => fun
  | [d1, d2] => { results := [.lit (.bool true)], args := [d1, d2] }
  | _ => none }
def tabletAppliesRow : OpenClaim := { program := "ytiiogdgnccgehaa", sum := "04c8488d257721dbda09c43637e60afc84d97a28d1af32d9e85902152365ce83", func := "rickyard/rickyardlaw19.TabletApplies", spec := "tabletApplies", inPlace := ["internal/abi.NoEscape", "internal/bytealg.MakeNoZero", "slices.overlaps[string]"], unfollowed := true, recurses := true, plainKeys := false, apart := false }
def TabletAppliesSaid : Prop := tabletAppliesRow.holds Try.pinned (OpenSpec.ofChange tabletAppliesSpec)

/-- ITS FALSE NEIGHBOUR: 'it returns false'. Refute it at one input. -/
def tabletAppliesWrong : ChangeSpec := { name := "tabletApplies", fn := fun _ => fun
  | [d1, d2] => { results := [.lit (.bool false)], args := [d1, d2] }
  | _ => none }
def TabletAppliesWrongFalsely : Prop := tabletAppliesRow.holds Try.pinned (OpenSpec.ofChange tabletAppliesWrong)

/-- 'rickyardlaw19.TabletOnce': WHATEVER THE INPUT: true; the input reads as it did. -/
def tabletOnceSpec : ChangeSpec := { name := "tabletOnce", fn := fun _ => fun
  | [d] => { results := [.lit (.bool true)], args := [d] }
  | _ => none }
def tabletOnceRow : OpenClaim := { program := "ytiiogdgnccgehaa", sum := "04c8488d257721dbda09c43637e60afc84d97a28d1af32d9e85902152365ce83", func := "rickyard/rickyardlaw19.TabletOnce", spec := "tabletOnce", inPlace := ["internal/abi.NoEscape", "internal/bytealg.MakeNoZero", "slices.overlaps[string]"], unfollowed := true, recurses := true, plainKeys := false, apart := false }
def TabletOnceSaid : Prop := tabletOnceRow.holds Try.pinned (OpenSpec.ofChange tabletOnceSpec)

/-- ITS FALSE NEIGHBOUR: 'it returns false'. Refute it at one input. -/
def tabletOnceWrong : ChangeSpec := { name := "tabletOnce", fn := fun _ => fun
  | [d] => { results := [.lit (.bool false)], args := [d] }
  | _ => none }
def TabletOnceWrongFalsely : Prop := tabletOnceRow.holds Try.pinned (OpenSpec.ofChange tabletOnceWrong)

/-- 'rickyardlaw19.TabletBorders': WHATEVER THE INPUT: true; the input reads as it did. -/
def tabletBordersSpec : ChangeSpec := { name := "tabletBorders", fn := fun _ => fun
  | [d] => { results := [.lit (.bool true)], args := [d] }
  | _ => none }
def tabletBordersRow : OpenClaim := { program := "ytiiogdgnccgehaa", sum := "04c8488d257721dbda09c43637e60afc84d97a28d1af32d9e85902152365ce83", func := "rickyard/rickyardlaw19.TabletBorders", spec := "tabletBorders", inPlace := ["internal/abi.NoEscape", "internal/bytealg.MakeNoZero", "slices.overlaps[string]"], unfollowed := true, recurses := true, plainKeys := false, apart := false }
def TabletBordersSaid : Prop := tabletBordersRow.holds Try.pinned (OpenSpec.ofChange tabletBordersSpec)

/-- ITS FALSE NEIGHBOUR: 'it returns false'. Refute it at one input. -/
def tabletBordersWrong : ChangeSpec := { name := "tabletBorders", fn := fun _ => fun
  | [d] => { results := [.lit (.bool false)], args := [d] }
  | _ => none }
def TabletBordersWrongFalsely : Prop := tabletBordersRow.holds Try.pinned (OpenSpec.ofChange tabletBordersWrong)

/-- 'rickyardlaw19.TabletEpochs': WHATEVER THE INPUT: true; the input reads as it did. -/
def tabletEpochsSpec : ChangeSpec := { name := "tabletEpochs", fn := fun _ => fun
  | [d1, d2, d3, d4, d5] => { results := [.lit (.bool true)], args := [d1, d2, d3, d4, d5] }
  | _ => none }
def tabletEpochsRow : OpenClaim := { program := "ytiiogdgnccgehaa", sum := "04c8488d257721dbda09c43637e60afc84d97a28d1af32d9e85902152365ce83", func := "rickyard/rickyardlaw19.TabletEpochs", spec := "tabletEpochs", inPlace := ["internal/abi.NoEscape", "internal/bytealg.MakeNoZero", "slices.overlaps[string]"], unfollowed := true, recurses := true, plainKeys := false, apart := false }
def TabletEpochsSaid : Prop := tabletEpochsRow.holds Try.pinned (OpenSpec.ofChange tabletEpochsSpec)

/-- ITS FALSE NEIGHBOUR: 'it returns false'. Refute it at one input. -/
def tabletEpochsWrong : ChangeSpec := { name := "tabletEpochs", fn := fun _ => fun
  | [d1, d2, d3, d4, d5] => { results := [.lit (.bool false)], args := [d1, d2, d3, d4, d5] }
  | _ => none }
def TabletEpochsWrongFalsely : Prop := tabletEpochsRow.holds Try.pinned (OpenSpec.ofChange tabletEpochsWrong)

/-- 'rickyardlaw19.TabletAlike': WHATEVER THE INPUT: true; the input reads as it did. -/
def tabletAlikeSpec : ChangeSpec := { name := "tabletAlike", fn := fun _ => fun
  | [d1, d2] => { results := [.lit (.bool true)], args := [d1, d2] }
  | _ => none }
def tabletAlikeRow : OpenClaim := { program := "ytiiogdgnccgehaa", sum := "04c8488d257721dbda09c43637e60afc84d97a28d1af32d9e85902152365ce83", func := "rickyard/rickyardlaw19.TabletAlike", spec := "tabletAlike", inPlace := ["internal/abi.NoEscape", "internal/bytealg.MakeNoZero", "slices.overlaps[string]"], unfollowed := true, recurses := true, plainKeys := false, apart := false }
def TabletAlikeSaid : Prop := tabletAlikeRow.holds Try.pinned (OpenSpec.ofChange tabletAlikeSpec)

/-- ITS FALSE NEIGHBOUR: 'it returns false'. Refute it at one input. -/
def tabletAlikeWrong : ChangeSpec := { name := "tabletAlike", fn := fun _ => fun
  | [d1, d2] => { results := [.lit (.bool false)], args := [d1, d2] }
  | _ => none }
def TabletAlikeWrongFalsely : Prop := tabletAlikeRow.holds Try.pinned (OpenSpec.ofChange tabletAlikeWrong)

/-- 'rickyardlaw19.TabletStale': WHATEVER THE INPUT: true; the input reads as it did. -/
def tabletStaleSpec : ChangeSpec := { name := "tabletStale", fn := fun _ => fun
  | [d1, d2, d3, d4] => { results := [.lit (.bool true)], args := [d1, d2, d3, d4] }
  | _ => none }
def tabletStaleRow : OpenClaim := { program := "ytiiogdgnccgehaa", sum := "04c8488d257721dbda09c43637e60afc84d97a28d1af32d9e85902152365ce83", func := "rickyard/rickyardlaw19.TabletStale", spec := "tabletStale", inPlace := ["internal/abi.NoEscape", "internal/bytealg.MakeNoZero", "slices.overlaps[string]"], unfollowed := true, recurses := true, plainKeys := false, apart := false }
def TabletStaleSaid : Prop := tabletStaleRow.holds Try.pinned (OpenSpec.ofChange tabletStaleSpec)

/-- ITS FALSE NEIGHBOUR: 'it returns false'. Refute it at one input. -/
def tabletStaleWrong : ChangeSpec := { name := "tabletStale", fn := fun _ => fun
  | [d1, d2, d3, d4] => { results := [.lit (.bool false)], args := [d1, d2, d3, d4] }
  | _ => none }
def TabletStaleWrongFalsely : Prop := tabletStaleRow.holds Try.pinned (OpenSpec.ofChange tabletStaleWrong)

/- THE SECOND FORM. 'bulk': how many values and letters a reading holds, each counted each time it is reached (what is shared counts as often as it is met; a slice's spare places count too). A statement '..UptoSaid' is the law's where the arguments, and the package variables that the reading takes, are together of bulk at most 1048576: NARROWER than '..Said'. Prove '..Said' where nothing that the law and all that it calls make is longer than what came in: it says more and counts as full. Else prove '..UptoSaid'. A law counts once. -/
mutual
def uptoBulk {H : Type} : DataW H → Nat
  | .lit (.string bytes) => bytes.length + 1
  | .lit _ => 1
  | .nil => 1
  | .ptr d => uptoBulk d + 1
  | .slice elems spare => uptoBulkAll elems + uptoBulkAll spare + 1
  | .agg parts => uptoBulkAll parts + 1
  | .iface _ d => uptoBulk d + 1
  | .map entries => uptoBulkEntries entries + 1
  | .held _ => 1
def uptoBulkAll {H : Type} : List (DataW H) → Nat
  | [] => 0
  | d :: r => uptoBulk d + uptoBulkAll r
def uptoBulkEntries {H : Type} : List (Lit × DataW H) → Nat
  | [] => 0
  | x :: r => uptoBulkEntry x + uptoBulkEntries r
def uptoBulkEntry {H : Type} : Lit × DataW H → Nat
  | (.string bytes, d) => bytes.length + uptoBulk d + 1
  | (_, d) => uptoBulk d + 1
 end
def uptoSmall : (H : Type) → List (DataW H) → Bool := fun _ ds => decide (uptoBulkAll ds ≤ 1048576)
def OpenSpec.upto (s : _root_.Go.ChangeSpec) : _root_.Go.OpenSpec := { _root_.Go.OpenSpec.ofChange s with cond := some uptoSmall }

/-- 'rickyardlaw19.TabletBytes', WHERE WHAT IT READS IS OF BULK AT MOST 1048576: true; the input reads as it did. -/
def tabletBytesUptoRow : OpenClaim := { program := "ytiiogdgnccgehaa", sum := "04c8488d257721dbda09c43637e60afc84d97a28d1af32d9e85902152365ce83", func := "rickyard/rickyardlaw19.TabletBytes", spec := "tabletBytes", inPlace := ["internal/abi.NoEscape", "internal/bytealg.MakeNoZero", "slices.overlaps[string]"], unfollowed := true, recurses := true, plainKeys := false, apart := false, narrowed := true }
def TabletBytesUptoSaid : Prop := tabletBytesUptoRow.holds Try.pinned (OpenSpec.upto tabletBytesSpec)

/-- 'rickyardlaw19.TabletApplies', WHERE WHAT IT READS IS OF BULK AT MOST 1048576: true; the input reads as it did. -/
def tabletAppliesUptoRow : OpenClaim := { program := "ytiiogdgnccgehaa", sum := "04c8488d257721dbda09c43637e60afc84d97a28d1af32d9e85902152365ce83", func := "rickyard/rickyardlaw19.TabletApplies", spec := "tabletApplies", inPlace := ["internal/abi.NoEscape", "internal/bytealg.MakeNoZero", "slices.overlaps[string]"], unfollowed := true, recurses := true, plainKeys := false, apart := false, narrowed := true }
def TabletAppliesUptoSaid : Prop := tabletAppliesUptoRow.holds Try.pinned (OpenSpec.upto tabletAppliesSpec)

/-- 'rickyardlaw19.TabletOnce', WHERE WHAT IT READS IS OF BULK AT MOST 1048576: true; the input reads as it did. -/
def tabletOnceUptoRow : OpenClaim := { program := "ytiiogdgnccgehaa", sum := "04c8488d257721dbda09c43637e60afc84d97a28d1af32d9e85902152365ce83", func := "rickyard/rickyardlaw19.TabletOnce", spec := "tabletOnce", inPlace := ["internal/abi.NoEscape", "internal/bytealg.MakeNoZero", "slices.overlaps[string]"], unfollowed := true, recurses := true, plainKeys := false, apart := false, narrowed := true }
def TabletOnceUptoSaid : Prop := tabletOnceUptoRow.holds Try.pinned (OpenSpec.upto tabletOnceSpec)

/-- 'rickyardlaw19.TabletBorders', WHERE WHAT IT READS IS OF BULK AT MOST 1048576: true; the input reads as it did. -/
def tabletBordersUptoRow : OpenClaim := { program := "ytiiogdgnccgehaa", sum := "04c8488d257721dbda09c43637e60afc84d97a28d1af32d9e85902152365ce83", func := "rickyard/rickyardlaw19.TabletBorders", spec := "tabletBorders", inPlace := ["internal/abi.NoEscape", "internal/bytealg.MakeNoZero", "slices.overlaps[string]"], unfollowed := true, recurses := true, plainKeys := false, apart := false, narrowed := true }
def TabletBordersUptoSaid : Prop := tabletBordersUptoRow.holds Try.pinned (OpenSpec.upto tabletBordersSpec)

/-- 'rickyardlaw19.TabletEpochs', WHERE WHAT IT READS IS OF BULK AT MOST 1048576: true; the input reads as it did. -/
def tabletEpochsUptoRow : OpenClaim := { program := "ytiiogdgnccgehaa", sum := "04c8488d257721dbda09c43637e60afc84d97a28d1af32d9e85902152365ce83", func := "rickyard/rickyardlaw19.TabletEpochs", spec := "tabletEpochs", inPlace := ["internal/abi.NoEscape", "internal/bytealg.MakeNoZero", "slices.overlaps[string]"], unfollowed := true, recurses := true, plainKeys := false, apart := false, narrowed := true }
def TabletEpochsUptoSaid : Prop := tabletEpochsUptoRow.holds Try.pinned (OpenSpec.upto tabletEpochsSpec)

/-- 'rickyardlaw19.TabletAlike', WHERE WHAT IT READS IS OF BULK AT MOST 1048576: true; the input reads as it did. -/
def tabletAlikeUptoRow : OpenClaim := { program := "ytiiogdgnccgehaa", sum := "04c8488d257721dbda09c43637e60afc84d97a28d1af32d9e85902152365ce83", func := "rickyard/rickyardlaw19.TabletAlike", spec := "tabletAlike", inPlace := ["internal/abi.NoEscape", "internal/bytealg.MakeNoZero", "slices.overlaps[string]"], unfollowed := true, recurses := true, plainKeys := false, apart := false, narrowed := true }
def TabletAlikeUptoSaid : Prop := tabletAlikeUptoRow.holds Try.pinned (OpenSpec.upto tabletAlikeSpec)

/-- 'rickyardlaw19.TabletStale', WHERE WHAT IT READS IS OF BULK AT MOST 1048576: true; the input reads as it did. -/
def tabletStaleUptoRow : OpenClaim := { program := "ytiiogdgnccgehaa", sum := "04c8488d257721dbda09c43637e60afc84d97a28d1af32d9e85902152365ce83", func := "rickyard/rickyardlaw19.TabletStale", spec := "tabletStale", inPlace := ["internal/abi.NoEscape", "internal/bytealg.MakeNoZero", "slices.overlaps[string]"], unfollowed := true, recurses := true, plainKeys := false, apart := false, narrowed := true }
def TabletStaleUptoSaid : Prop := tabletStaleUptoRow.holds Try.pinned (OpenSpec.upto tabletStaleSpec)

end Rows
end Go.Proofs.Ytiiogdgnccgehaa
