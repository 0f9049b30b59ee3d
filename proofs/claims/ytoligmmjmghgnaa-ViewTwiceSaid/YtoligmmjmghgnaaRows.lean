/-
  No cell of these rows narrows 'for every input' (looked for: loops, veiled, ifaces, maps, wideKeys, modest, calm, conditions, laid).
  DERIVED. THE GIVEN ROWS OF THIS SEAT. 4 by the template 'for every input the law returns true; each argument reads behind the call as it read before'; 0 by the template 'total and deterministic' (their statements: YtoligmmjmghgnaaTotals.lean).
  GIVEN WITH THE SEED: the statements are not yours to turn. If you find one false, say at which input.
  Laid BY PROGRAM, IN A SANDBOX (cutbox-rows.mjs): the forced cells as the released guide's own fill.sh prints them over the translation 84bc554a9b376386… (all of the seat's roots in one cut). By AI agents, Wed Nov 11 2026. No macro, syntax, notation, axiom, sorry.
-/
import Derived.Test.YtoligmmjmghgnaaChecked
import GoSem.Claim
import GoSem.ClaimJoined
import GoSem.ClaimMapViews
import Derived.JoinedTies
import Derived.KernelRfl
namespace Go.Proofs.Ytoligmmjmghgnaa
/- THE CELL 'sum', in the pinned program and in every row, IS THE sha256 OF THE DUMP (.gsa) THAT YtoligmmjmghgnaaProg.lean LOADS. Nothing in Lean hashes anything: it is a label: what it is worth is what the hold of that sum in a sandbox is worth. -/
noncomputable def Try.pinned : Pinned := { name := "ytoligmmjmghgnaa", sum := "84bc554a9b37638693eec32dd9b5ef1a70d8e1fb25c5d096025dee406dd6a7a3", checked := Try.checked }
namespace Rows
def none {H : Type} : Left H := { results := [], args := [] }

/-- 'rickyardlaw14.ViewOne': WHATEVER THE INPUT: true; the input reads as it did. -/
def viewOneSpec : ChangeSpec := { name := "viewOne", fn := fun _ => fun
  | [d1, d2] => { results := [.lit (.bool true)], args := [d1, d2] }
  | _ => none }
def viewOneRow : OpenClaim := { program := "ytoligmmjmghgnaa", sum := "84bc554a9b37638693eec32dd9b5ef1a70d8e1fb25c5d096025dee406dd6a7a3", func := "rickyard/rickyardlaw14.ViewOne", spec := "viewOne", inPlace := ["internal/bytealg.abigen_runtime_cmpstring"], unfollowed := true, recurses := true, apart := false }
def ViewOneSaid : Prop := viewOneRow.holds Try.pinned (OpenSpec.ofChange viewOneSpec)

/-- ITS FALSE NEIGHBOUR: 'it returns false'. Refute it at one input. -/
def viewOneWrong : ChangeSpec := { name := "viewOne", fn := fun _ => fun
  | [d1, d2] => { results := [.lit (.bool false)], args := [d1, d2] }
  | _ => none }
def ViewOneWrongFalsely : Prop := viewOneRow.holds Try.pinned (OpenSpec.ofChange viewOneWrong)

/-- 'rickyardlaw14.ViewGoes': WHATEVER THE INPUT: true; the input reads as it did. -/
def viewGoesSpec : ChangeSpec := { name := "viewGoes", fn := fun _ => fun
  | [d1, d2, d3, d4] => { results := [.lit (.bool true)], args := [d1, d2, d3, d4] }
  | _ => none }
def viewGoesRow : OpenClaim := { program := "ytoligmmjmghgnaa", sum := "84bc554a9b37638693eec32dd9b5ef1a70d8e1fb25c5d096025dee406dd6a7a3", func := "rickyard/rickyardlaw14.ViewGoes", spec := "viewGoes", inPlace := ["internal/bytealg.abigen_runtime_cmpstring"], unfollowed := true, recurses := true, apart := false }
def ViewGoesSaid : Prop := viewGoesRow.holds Try.pinned (OpenSpec.ofChange viewGoesSpec)

/-- ITS FALSE NEIGHBOUR: 'it returns false'. Refute it at one input. -/
def viewGoesWrong : ChangeSpec := { name := "viewGoes", fn := fun _ => fun
  | [d1, d2, d3, d4] => { results := [.lit (.bool false)], args := [d1, d2, d3, d4] }
  | _ => none }
def ViewGoesWrongFalsely : Prop := viewGoesRow.holds Try.pinned (OpenSpec.ofChange viewGoesWrong)

/-- 'rickyardlaw14.ViewSpans': WHATEVER THE INPUT: true; the input reads as it did. -/
def viewSpansSpec : ChangeSpec := { name := "viewSpans", fn := fun _ => fun
  | [d1, d2, d3, d4] => { results := [.lit (.bool true)], args := [d1, d2, d3, d4] }
  | _ => none }
def viewSpansRow : OpenClaim := { program := "ytoligmmjmghgnaa", sum := "84bc554a9b37638693eec32dd9b5ef1a70d8e1fb25c5d096025dee406dd6a7a3", func := "rickyard/rickyardlaw14.ViewSpans", spec := "viewSpans", inPlace := ["internal/bytealg.abigen_runtime_cmpstring"], unfollowed := true, recurses := true, apart := false }
def ViewSpansSaid : Prop := viewSpansRow.holds Try.pinned (OpenSpec.ofChange viewSpansSpec)

/-- ITS FALSE NEIGHBOUR: 'it returns false'. Refute it at one input. -/
def viewSpansWrong : ChangeSpec := { name := "viewSpans", fn := fun _ => fun
  | [d1, d2, d3, d4] => { results := [.lit (.bool false)], args := [d1, d2, d3, d4] }
  | _ => none }
def ViewSpansWrongFalsely : Prop := viewSpansRow.holds Try.pinned (OpenSpec.ofChange viewSpansWrong)

/-- 'rickyardlaw14.ViewTwice': WHATEVER THE INPUT: true; the input reads as it did. -/
def viewTwiceSpec : ChangeSpec := { name := "viewTwice", fn := fun _ => fun
  | [d1, d2, d3] => { results := [.lit (.bool true)], args := [d1, d2, d3] }
  | _ => none }
def viewTwiceRow : OpenClaim := { program := "ytoligmmjmghgnaa", sum := "84bc554a9b37638693eec32dd9b5ef1a70d8e1fb25c5d096025dee406dd6a7a3", func := "rickyard/rickyardlaw14.ViewTwice", spec := "viewTwice", inPlace := ["internal/bytealg.abigen_runtime_cmpstring"], unfollowed := true, recurses := true, apart := false }
def ViewTwiceSaid : Prop := viewTwiceRow.holds Try.pinned (OpenSpec.ofChange viewTwiceSpec)

/-- ITS FALSE NEIGHBOUR: 'it returns false'. Refute it at one input. -/
def viewTwiceWrong : ChangeSpec := { name := "viewTwice", fn := fun _ => fun
  | [d1, d2, d3] => { results := [.lit (.bool false)], args := [d1, d2, d3] }
  | _ => none }
def ViewTwiceWrongFalsely : Prop := viewTwiceRow.holds Try.pinned (OpenSpec.ofChange viewTwiceWrong)

/- THE SECOND FORM. 'bulk': how many values and letters a reading holds, each counted each time it is reached (what is shared counts as often as it is met; a slice's spare places count too). A statement '..UptoSaid' is the law's where the arguments, and the package variables that the reading takes, are together of bulk at most 1048576: NARROWER than '..Said'. Prove '..Said' where nothing that the law and all that it calls make is longer than what came in: it says more and counts as full. Else prove '..UptoSaid'. A law counts once. -/
mutual
def uptoBulk {H : Type} : DataW H → Nat
  | .lit (.string bytes) => bytes.length + 1
  | .lit _ => 1
  | .nil => 1
  | .ptr d => uptoBulk d + 1
  | .slice elems spare => uptoBulkAll elems + uptoBulkAll spare + 1
  | .agg parts => uptoBulkAll parts + 1
  | .iface _ d => uptoBulk d + 1
  | .map entries => uptoBulkEntries entries + 1
  | .held _ => 1
def uptoBulkAll {H : Type} : List (DataW H) → Nat
  | [] => 0
  | d :: r => uptoBulk d + uptoBulkAll r
def uptoBulkEntries {H : Type} : List (Lit × DataW H) → Nat
  | [] => 0
  | x :: r => uptoBulkEntry x + uptoBulkEntries r
def uptoBulkEntry {H : Type} : Lit × DataW H → Nat
  | (.string bytes, d) => bytes.length + uptoBulk d + 1
  | (_, d) => uptoBulk d + 1
 end
def uptoSmall : (H : Type) → List (DataW H) → Bool := fun _ ds => decide (uptoBulkAll ds ≤ 1048576)
def OpenSpec.upto (s : _root_.Go.ChangeSpec) : _root_.Go.OpenSpec := { _root_.Go.OpenSpec.ofChange s with cond := some uptoSmall }

/-- 'rickyardlaw14.ViewOne', WHERE WHAT IT READS IS OF BULK AT MOST 1048576: true; the input reads as it did. -/
def viewOneUptoRow : OpenClaim := { program := "ytoligmmjmghgnaa", sum := "84bc554a9b37638693eec32dd9b5ef1a70d8e1fb25c5d096025dee406dd6a7a3", func := "rickyard/rickyardlaw14.ViewOne", spec := "viewOne", inPlace := ["internal/bytealg.abigen_runtime_cmpstring"], unfollowed := true, recurses := true, apart := false, narrowed := true }
def ViewOneUptoSaid : Prop := viewOneUptoRow.holds Try.pinned (OpenSpec.upto viewOneSpec)

/-- 'rickyardlaw14.ViewGoes', WHERE WHAT IT READS IS OF BULK AT MOST 1048576: true; the input reads as it did. -/
def viewGoesUptoRow : OpenClaim := { program := "ytoligmmjmghgnaa", sum := "84bc554a9b37638693eec32dd9b5ef1a70d8e1fb25c5d096025dee406dd6a7a3", func := "rickyard/rickyardlaw14.ViewGoes", spec := "viewGoes", inPlace := ["internal/bytealg.abigen_runtime_cmpstring"], unfollowed := true, recurses := true, apart := false, narrowed := true }
def ViewGoesUptoSaid : Prop := viewGoesUptoRow.holds Try.pinned (OpenSpec.upto viewGoesSpec)

/-- 'rickyardlaw14.ViewSpans', WHERE WHAT IT READS IS OF BULK AT MOST 1048576: true; the input reads as it did. -/
def viewSpansUptoRow : OpenClaim := { program := "ytoligmmjmghgnaa", sum := "84bc554a9b37638693eec32dd9b5ef1a70d8e1fb25c5d096025dee406dd6a7a3", func := "rickyard/rickyardlaw14.ViewSpans", spec := "viewSpans", inPlace := ["internal/bytealg.abigen_runtime_cmpstring"], unfollowed := true, recurses := true, apart := false, narrowed := true }
def ViewSpansUptoSaid : Prop := viewSpansUptoRow.holds Try.pinned (OpenSpec.upto viewSpansSpec)

/-- 'rickyardlaw14.ViewTwice', WHERE WHAT IT READS IS OF BULK AT MOST 1048576: true; the input reads as it did. -/
def viewTwiceUptoRow : OpenClaim := { program := "ytoligmmjmghgnaa", sum := "84bc554a9b37638693eec32dd9b5ef1a70d8e1fb25c5d096025dee406dd6a7a3", func := "rickyard/rickyardlaw14.ViewTwice", spec := "viewTwice", inPlace := ["internal/bytealg.abigen_runtime_cmpstring"], unfollowed := true, recurses := true, apart := false, narrowed := true }
def ViewTwiceUptoSaid : Prop := viewTwiceUptoRow.holds Try.pinned (OpenSpec.upto viewTwiceSpec)

end Rows
end Go.Proofs.Ytoligmmjmghgnaa
