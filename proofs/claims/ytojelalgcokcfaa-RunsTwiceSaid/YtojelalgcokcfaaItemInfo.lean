/-
  What the program tells of the types of items. No conditions.
-/
import Derived.Test.YtojelalgcokcfaaItemOrd
import Derived.SliceStrings
namespace Go.Proofs.Ytojelalgcokcfaa
open Go.RowKit

/-- the zero of a cell -/
def zeroCell : Value := .agg #[.string ⟨#[]⟩, .string ⟨#[]⟩, .int .u64 0, .int .u64 0, .bool false, .string ⟨#[]⟩]
def zeroItem : Value := .agg #[.string ⟨#[]⟩, .string ⟨#[]⟩, .int .u64 0, .int .u64 0, .bool false, .string ⟨#[]⟩, .int .i64 0]
theorem cellInfo : (Try.prog.info? 46).map (fun i => (i.zero, i.size, i.bytes)) = some (some zeroCell, 6, 72) := by kernel_rfl
theorem itemInfo : (Try.prog.info? 48).map (fun i => (i.zero, i.size, i.bytes)) = some (some zeroItem, 7, 80) := by kernel_rfl
theorem refItemInfo : (Try.prog.info? 50).map (fun i => (i.zero, i.size, i.bytes)) = some (some zeroItem, 7, 80) := by kernel_rfl
theorem itemsInfo : (Try.prog.info? 35).map (fun i => (i.zero, i.size, i.bytes)) = some (some (.slice none 0 0), 1, 24) := by kernel_rfl
theorem refItemsInfo : (Try.prog.info? 33).map (fun i => (i.zero, i.size, i.bytes)) = some (some (.slice none 0 0), 1, 24) := by kernel_rfl
end Go.Proofs.Ytojelalgcokcfaa
