/-
  No cell of these rows narrows 'for every input' (looked for: loops, veiled, ifaces, maps, wideKeys, modest, calm, conditions, laid).
  DERIVED. THE GIVEN ROWS OF THIS SEAT. 6 by the template 'for every input the law returns true; each argument reads behind the call as it read before'; 0 by the template 'total and deterministic' (their statements: YteacjikkojglmaaTotals.lean).
  GIVEN WITH THE SEED: the statements are not yours to turn. If you find one false, say at which input.
  Laid BY PROGRAM, IN A SANDBOX (cutbox-rows.mjs): the forced cells as the released guide's own fill.sh prints them over the translation 40b3460801868f27… (all of the seat's roots in one cut). By AI agents, Wed Nov 11 2026. No macro, syntax, notation, axiom, sorry.
-/
import Derived.Test.YteacjikkojglmaaChecked
import GoSem.Claim
import GoSem.ClaimJoined
import GoSem.ClaimMapViews
import Derived.JoinedTies
import Derived.KernelRfl
namespace Go.Proofs.Yteacjikkojglmaa
/- THE CELL 'sum', in the pinned program and in every row, IS THE sha256 OF THE DUMP (.gsa) THAT YteacjikkojglmaaProg.lean LOADS. Nothing in Lean hashes anything: it is a label: what it is worth is what the hold of that sum in a sandbox is worth. -/
noncomputable def Try.pinned : Pinned := { name := "yteacjikkojglmaa", sum := "40b3460801868f27ba671f3549e0924e46788d4694b899fa1377db4737634fb1", checked := Try.checked }
namespace Rows
def none {H : Type} : Left H := { results := [], args := [] }

/-- 'rickyardlaw10.CutSplits': WHATEVER THE INPUT: true; the input reads as it did. -/
def cutSplitsSpec : ChangeSpec := { name := "cutSplits", fn := fun _ => fun
  | [d1, d2, d3] => { results := [.lit (.bool true)], args := [d1, d2, d3] }
  | _ => none }
def cutSplitsRow : OpenClaim := { program := "yteacjikkojglmaa", sum := "40b3460801868f27ba671f3549e0924e46788d4694b899fa1377db4737634fb1", func := "rickyard/rickyardlaw10.CutSplits", spec := "cutSplits", inPlace := ["internal/bytealg.abigen_runtime_cmpstring"], unfollowed := true, recurses := true, apart := false }
def CutSplitsSaid : Prop := cutSplitsRow.holds Try.pinned (OpenSpec.ofChange cutSplitsSpec)

/-- ITS FALSE NEIGHBOUR: 'it returns false'. Refute it at one input. -/
def cutSplitsWrong : ChangeSpec := { name := "cutSplits", fn := fun _ => fun
  | [d1, d2, d3] => { results := [.lit (.bool false)], args := [d1, d2, d3] }
  | _ => none }
def CutSplitsWrongFalsely : Prop := cutSplitsRow.holds Try.pinned (OpenSpec.ofChange cutSplitsWrong)

/-- 'rickyardlaw10.CutRolls': WHATEVER THE INPUT: true; the input reads as it did. -/
def cutRollsSpec : ChangeSpec := { name := "cutRolls", fn := fun _ => fun
  | [d1, d2] => { results := [.lit (.bool true)], args := [d1, d2] }
  | _ => none }
def cutRollsRow : OpenClaim := { program := "yteacjikkojglmaa", sum := "40b3460801868f27ba671f3549e0924e46788d4694b899fa1377db4737634fb1", func := "rickyard/rickyardlaw10.CutRolls", spec := "cutRolls", inPlace := ["internal/bytealg.abigen_runtime_cmpstring"], unfollowed := true, recurses := true, apart := false }
def CutRollsSaid : Prop := cutRollsRow.holds Try.pinned (OpenSpec.ofChange cutRollsSpec)

/-- ITS FALSE NEIGHBOUR: 'it returns false'. Refute it at one input. -/
def cutRollsWrong : ChangeSpec := { name := "cutRolls", fn := fun _ => fun
  | [d1, d2] => { results := [.lit (.bool false)], args := [d1, d2] }
  | _ => none }
def CutRollsWrongFalsely : Prop := cutRollsRow.holds Try.pinned (OpenSpec.ofChange cutRollsWrong)

/-- 'rickyardlaw10.CutAll': WHATEVER THE INPUT: true; the input reads as it did. -/
def cutAllSpec : ChangeSpec := { name := "cutAll", fn := fun _ => fun
  | [d1, d2, d3] => { results := [.lit (.bool true)], args := [d1, d2, d3] }
  | _ => none }
def cutAllRow : OpenClaim := { program := "yteacjikkojglmaa", sum := "40b3460801868f27ba671f3549e0924e46788d4694b899fa1377db4737634fb1", func := "rickyard/rickyardlaw10.CutAll", spec := "cutAll", inPlace := ["internal/bytealg.abigen_runtime_cmpstring"], unfollowed := true, recurses := true, apart := false }
def CutAllSaid : Prop := cutAllRow.holds Try.pinned (OpenSpec.ofChange cutAllSpec)

/-- ITS FALSE NEIGHBOUR: 'it returns false'. Refute it at one input. -/
def cutAllWrong : ChangeSpec := { name := "cutAll", fn := fun _ => fun
  | [d1, d2, d3] => { results := [.lit (.bool false)], args := [d1, d2, d3] }
  | _ => none }
def CutAllWrongFalsely : Prop := cutAllRow.holds Try.pinned (OpenSpec.ofChange cutAllWrong)

/-- 'rickyardlaw10.CutPieces': WHATEVER THE INPUT: true; the input reads as it did. -/
def cutPiecesSpec : ChangeSpec := { name := "cutPieces", fn := fun _ => fun
  | [d1, d2, d3] => { results := [.lit (.bool true)], args := [d1, d2, d3] }
  | _ => none }
def cutPiecesRow : OpenClaim := { program := "yteacjikkojglmaa", sum := "40b3460801868f27ba671f3549e0924e46788d4694b899fa1377db4737634fb1", func := "rickyard/rickyardlaw10.CutPieces", spec := "cutPieces", inPlace := ["internal/bytealg.abigen_runtime_cmpstring"], unfollowed := true, recurses := true, apart := false }
def CutPiecesSaid : Prop := cutPiecesRow.holds Try.pinned (OpenSpec.ofChange cutPiecesSpec)

/-- ITS FALSE NEIGHBOUR: 'it returns false'. Refute it at one input. -/
def cutPiecesWrong : ChangeSpec := { name := "cutPieces", fn := fun _ => fun
  | [d1, d2, d3] => { results := [.lit (.bool false)], args := [d1, d2, d3] }
  | _ => none }
def CutPiecesWrongFalsely : Prop := cutPiecesRow.holds Try.pinned (OpenSpec.ofChange cutPiecesWrong)

/-- 'rickyardlaw10.CutPlaces': WHATEVER THE INPUT: true; the input reads as it did. -/
def cutPlacesSpec : ChangeSpec := { name := "cutPlaces", fn := fun _ => fun
  | [d1, d2] => { results := [.lit (.bool true)], args := [d1, d2] }
  | _ => none }
def cutPlacesRow : OpenClaim := { program := "yteacjikkojglmaa", sum := "40b3460801868f27ba671f3549e0924e46788d4694b899fa1377db4737634fb1", func := "rickyard/rickyardlaw10.CutPlaces", spec := "cutPlaces", inPlace := ["internal/bytealg.abigen_runtime_cmpstring"], unfollowed := true, recurses := true, apart := false }
def CutPlacesSaid : Prop := cutPlacesRow.holds Try.pinned (OpenSpec.ofChange cutPlacesSpec)

/-- ITS FALSE NEIGHBOUR: 'it returns false'. Refute it at one input. -/
def cutPlacesWrong : ChangeSpec := { name := "cutPlaces", fn := fun _ => fun
  | [d1, d2] => { results := [.lit (.bool false)], args := [d1, d2] }
  | _ => none }
def CutPlacesWrongFalsely : Prop := cutPlacesRow.holds Try.pinned (OpenSpec.ofChange cutPlacesWrong)

/-- 'rickyardlaw10.CutAgain': WHATEVER THE INPUT: true; the input reads as it did. -/
def cutAgainSpec : ChangeSpec := { name := "cutAgain", fn := fun _ => fun
  | [d1, d2, d3] => { results := [.lit (.bool true)], args := [d1, d2, d3] }
  | _ => none }
def cutAgainRow : OpenClaim := { program := "yteacjikkojglmaa", sum := "40b3460801868f27ba671f3549e0924e46788d4694b899fa1377db4737634fb1", func := "rickyard/rickyardlaw10.CutAgain", spec := "cutAgain", inPlace := ["internal/bytealg.abigen_runtime_cmpstring"], unfollowed := true, recurses := true, apart := false }
def CutAgainSaid : Prop := cutAgainRow.holds Try.pinned (OpenSpec.ofChange cutAgainSpec)

/-- ITS FALSE NEIGHBOUR: 'it returns false'. Refute it at one input. -/
def cutAgainWrong : ChangeSpec := { name := "cutAgain", fn := fun _ => fun
  | [d1, d2, d3] => { results := [.lit (.bool false)], args := [d1, d2, d3] }
  | _ => none }
def CutAgainWrongFalsely : Prop := cutAgainRow.holds Try.pinned (OpenSpec.ofChange cutAgainWrong)

/- THE SECOND FORM. 'bulk': how many values and letters a reading holds, each counted each time it is reached (what is shared counts as often as it is met; a slice's spare places count too). A statement '..UptoSaid' is the law's where the arguments, and the package variables that the reading takes, are together of bulk at most 1048576: NARROWER than '..Said'. Prove '..Said' where nothing that the law and all that it calls make is longer than what came in: it says more and counts as full. Else prove '..UptoSaid'. A law counts once. -/
mutual
def uptoBulk {H : Type} : DataW H → Nat
  | .lit (.string bytes) => bytes.length + 1
  | .lit _ => 1
  | .nil => 1
  | .ptr d => uptoBulk d + 1
  | .slice elems spare => uptoBulkAll elems + uptoBulkAll spare + 1
  | .agg parts => uptoBulkAll parts + 1
  | .iface _ d => uptoBulk d + 1
  | .map entries => uptoBulkEntries entries + 1
  | .held _ => 1
def uptoBulkAll {H : Type} : List (DataW H) → Nat
  | [] => 0
  | d :: r => uptoBulk d + uptoBulkAll r
def uptoBulkEntries {H : Type} : List (Lit × DataW H) → Nat
  | [] => 0
  | x :: r => uptoBulkEntry x + uptoBulkEntries r
def uptoBulkEntry {H : Type} : Lit × DataW H → Nat
  | (.string bytes, d) => bytes.length + uptoBulk d + 1
  | (_, d) => uptoBulk d + 1
 end
def uptoSmall : (H : Type) → List (DataW H) → Bool := fun _ ds => decide (uptoBulkAll ds ≤ 1048576)
def OpenSpec.upto (s : _root_.Go.ChangeSpec) : _root_.Go.OpenSpec := { _root_.Go.OpenSpec.ofChange s with cond := some uptoSmall }

/-- 'rickyardlaw10.CutSplits', WHERE WHAT IT READS IS OF BULK AT MOST 1048576: true; the input reads as it did. -/
def cutSplitsUptoRow : OpenClaim := { program := "yteacjikkojglmaa", sum := "40b3460801868f27ba671f3549e0924e46788d4694b899fa1377db4737634fb1", func := "rickyard/rickyardlaw10.CutSplits", spec := "cutSplits", inPlace := ["internal/bytealg.abigen_runtime_cmpstring"], unfollowed := true, recurses := true, apart := false, narrowed := true }
def CutSplitsUptoSaid : Prop := cutSplitsUptoRow.holds Try.pinned (OpenSpec.upto cutSplitsSpec)

/-- 'rickyardlaw10.CutRolls', WHERE WHAT IT READS IS OF BULK AT MOST 1048576: true; the input reads as it did. -/
def cutRollsUptoRow : OpenClaim := { program := "yteacjikkojglmaa", sum := "40b3460801868f27ba671f3549e0924e46788d4694b899fa1377db4737634fb1", func := "rickyard/rickyardlaw10.CutRolls", spec := "cutRolls", inPlace := ["internal/bytealg.abigen_runtime_cmpstring"], unfollowed := true, recurses := true, apart := false, narrowed := true }
def CutRollsUptoSaid : Prop := cutRollsUptoRow.holds Try.pinned (OpenSpec.upto cutRollsSpec)

/-- 'rickyardlaw10.CutAll', WHERE WHAT IT READS IS OF BULK AT MOST 1048576: true; the input reads as it did. -/
def cutAllUptoRow : OpenClaim := { program := "yteacjikkojglmaa", sum := "40b3460801868f27ba671f3549e0924e46788d4694b899fa1377db4737634fb1", func := "rickyard/rickyardlaw10.CutAll", spec := "cutAll", inPlace := ["internal/bytealg.abigen_runtime_cmpstring"], unfollowed := true, recurses := true, apart := false, narrowed := true }
def CutAllUptoSaid : Prop := cutAllUptoRow.holds Try.pinned (OpenSpec.upto cutAllSpec)

/-- 'rickyardlaw10.CutPieces', WHERE WHAT IT READS IS OF BULK AT MOST 1048576: true; the input reads as it did. -/
def cutPiecesUptoRow : OpenClaim := { program := "yteacjikkojglmaa", sum := "40b3460801868f27ba671f3549e0924e46788d4694b899fa1377db4737634fb1", func := "rickyard/rickyardlaw10.CutPieces", spec := "cutPieces", inPlace := ["internal/bytealg.abigen_runtime_cmpstring"], unfollowed := true, recurses := true, apart := false, narrowed := true }
def CutPiecesUptoSaid : Prop := cutPiecesUptoRow.holds Try.pinned (OpenSpec.upto cutPiecesSpec)

/-- 'rickyardlaw10.CutPlaces', WHERE WHAT IT READS IS OF BULK AT MOST 1048576: true; the input reads as it did. -/
def cutPlacesUptoRow : OpenClaim := { program := "yteacjikkojglmaa", sum := "40b3460801868f27ba671f3549e0924e46788d4694b899fa1377db4737634fb1", func := "rickyard/rickyardlaw10.CutPlaces", spec := "cutPlaces", inPlace := ["internal/bytealg.abigen_runtime_cmpstring"], unfollowed := true, recurses := true, apart := false, narrowed := true }
def CutPlacesUptoSaid : Prop := cutPlacesUptoRow.holds Try.pinned (OpenSpec.upto cutPlacesSpec)

/-- 'rickyardlaw10.CutAgain', WHERE WHAT IT READS IS OF BULK AT MOST 1048576: true; the input reads as it did. -/
def cutAgainUptoRow : OpenClaim := { program := "yteacjikkojglmaa", sum := "40b3460801868f27ba671f3549e0924e46788d4694b899fa1377db4737634fb1", func := "rickyard/rickyardlaw10.CutAgain", spec := "cutAgain", inPlace := ["internal/bytealg.abigen_runtime_cmpstring"], unfollowed := true, recurses := true, apart := false, narrowed := true }
def CutAgainUptoSaid : Prop := cutAgainUptoRow.holds Try.pinned (OpenSpec.upto cutAgainSpec)

end Rows
end Go.Proofs.Yteacjikkojglmaa
