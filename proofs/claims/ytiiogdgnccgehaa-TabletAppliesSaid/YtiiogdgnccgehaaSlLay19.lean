/-
  The contracts of slices.BinarySearch and slices.Insert at texts, at this program, in plain words, as the kit's lay-plain tool wrote them. No conditions.
-/
import Derived.Shelf.Spec.SearchS
import Derived.Shelf.Spec.SlicesInsert
import Derived.Shelf.Spec.SlicesInsertGrow
import Derived.Test.YtiiogdgnccgehaaProg
namespace Go.Proofs.Ytiiogdgnccgehaa
open Go.Proofs
open Go.Shelf
def lays26_ren : Go.Shelf.Ren := ⟨fun | 26 => 72 | 33 => 86 | 34 => 87 | 38 => 94 | n => n, fun | 24 => 43 | 9 => 9 | 3 => 3 | 4 => 4 | 40 => 147 | 0 => 0 | n => n, fun | n => n⟩
theorem lays26 : Go.Proofs.Lays2.n26 Try.prog lays26_ren := {
  mixed := by kernel_rfl
  f26 := Try.func72.trans (congrArg some (by kernel_rfl))
  f33 := Try.func86.trans (congrArg some (by kernel_rfl))
  f34 := Try.func87.trans (congrArg some (by kernel_rfl))
  f38 := Try.func94.trans (congrArg some (by kernel_rfl))
  t0 := Try.underlying0
  a0 := Try.isAgg0
  z0 := Try.sizeOf0
  v0 := Try.zeroValue0
  t3 := Try.underlying3
  a3 := Try.isAgg3
  z3 := Try.sizeOf3
  v3 := Try.zeroValue3
  t4 := Try.underlying4
  a4 := Try.isAgg4
  z4 := Try.sizeOf4
  v4 := Try.zeroValue4
  t9 := Try.underlying9
  a9 := Try.isAgg9
  z9 := Try.sizeOf9
  v9 := Try.zeroValue9
  t24 := Try.underlying43
  a24 := Try.isAgg43
  z24 := Try.sizeOf43
  v24 := Try.zeroValue43
  t40 := Try.underlying147
  a40 := Try.isAgg147
  z40 := Try.sizeOf147
  v40 := Try.zeroValue147 }
def lays22_ren : Go.Shelf.Ren := ⟨fun | 22 => 73 | 29 => 88 | 30 => 89 | 36 => 95 | 17 => 96 | n => n, fun | 24 => 43 | 9 => 9 | 3 => 3 | 4 => 4 | 0 => 0 | n => n, fun | n => n⟩
theorem lays22 : Go.Proofs.Lays2.n22 Try.prog lays22_ren := {
  mixed := by kernel_rfl
  f17 := Try.func96.trans (congrArg some (by kernel_rfl))
  f22 := Try.func73.trans (congrArg some (by kernel_rfl))
  f29 := Try.func88.trans (congrArg some (by kernel_rfl))
  f30 := Try.func89.trans (congrArg some (by kernel_rfl))
  f36 := Try.func95.trans (congrArg some (by kernel_rfl))
  t0 := Try.underlying0
  a0 := Try.isAgg0
  z0 := Try.sizeOf0
  v0 := Try.zeroValue0
  t3 := Try.underlying3
  a3 := Try.isAgg3
  z3 := Try.sizeOf3
  v3 := Try.zeroValue3
  t4 := Try.underlying4
  a4 := Try.isAgg4
  z4 := Try.sizeOf4
  v4 := Try.zeroValue4
  t9 := Try.underlying9
  a9 := Try.isAgg9
  z9 := Try.sizeOf9
  v9 := Try.zeroValue9
  t24 := Try.underlying43
  a24 := Try.isAgg43
  z24 := Try.sizeOf43
  v24 := Try.zeroValue43
  i9 := by kernel_rfl }
end Go.Proofs.Ytiiogdgnccgehaa
