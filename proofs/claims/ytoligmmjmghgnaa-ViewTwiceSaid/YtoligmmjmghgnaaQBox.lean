/-
  Words for memory: a cell in a block of its own. No conditions.
-/
import Derived.Test.YtoligmmjmghgnaaAlikeCell
namespace Go.Proofs.Ytoligmmjmghgnaa
open Go.RowKit

def QBox (T : TypeId) (w : World) (g : Nat) (x : Cl) : Prop := w.heap[g]? = some (.cells #[.string x.row, .string x.col, .int .u64 x.ts, .int .u64 x.seq, .bool x.del, .string x.val] T (0, 0))
theorem QBox.lt {T : TypeId} {w : World} {g : Nat} {x : Cl} (h : QBox T w g x) : g < w.heap.size := (Array.getElem?_eq_some_iff.1 h).1
theorem QBox.cells {T : TypeId} {w : World} {g : Nat} {x : Cl} (h : QBox T w g x) : w.cell? ⟨g, 0, none⟩ = some (.string x.row) ∧ w.cell? ⟨g, 1, none⟩ = some (.string x.col) ∧ w.cell? ⟨g, 2, none⟩ = some (.int .u64 x.ts) ∧ w.cell? ⟨g, 3, none⟩ = some (.int .u64 x.seq) ∧ w.cell? ⟨g, 4, none⟩ = some (.bool x.del) ∧ w.cell? ⟨g, 5, none⟩ = some (.string x.val) := by
  have f := fun j => cell_of_row w g j _ _ (0, 0) h
  exact ⟨f 0, f 1, f 2, f 3, f 4, f 5⟩
theorem QBox.range {T : TypeId} {w : World} {g : Nat} {x : Cl} (h : QBox T w g x) : w.rangeAt g 0 x.vals := fun j v hv => by
  rw [Nat.zero_add, cell_of_row w g j _ _ (0, 0) h, ← Array.getElem?_toList]
  exact hv
theorem QBox.keep {T : TypeId} {w w' : World} {g : Nat} {x : Cl} (h : QBox T w g x) (hk : w'.heap[g]? = w.heap[g]?) : QBox T w' g x := hk.trans h
theorem QBox.below {T : TypeId} {w w' : World} {g B : Nat} {x : Cl} (h : QBox T w g x) (hb : Below B w w') (hg : g < B) : QBox T w' g x := h.keep (hb.block g hg)
theorem QBox.new (T : TypeId) (w : World) (x : Cl) : QBox T (w.alloc (.cells #[.string x.row, .string x.col, .int .u64 x.ts, .int .u64 x.seq, .bool x.del, .string x.val] T)) w.heap.size x := heap_alloc_new w _
theorem QBox.set {T : TypeId} {w : World} {g : Nat} {v0 v1 v2 v3 v4 v5 : Value} (h : w.heap[g]? = some (.cells #[v0, v1, v2, v3, v4, v5] T (0, 0))) (x : Cl) : QBox T (w.setCells g 0 x.vals) g x ∧ w.grownBy (w.setCells g 0 x.vals) (some g) := by
  refine ⟨?_, (setCells_block g T x.vals 0 w _ h).2⟩
  have h1 := heap_setCell_same w g 0 _ T (.string x.row) h
  have h2 := heap_setCell_same _ g 1 _ T (.string x.col) h1
  have h3 := heap_setCell_same _ g 2 _ T (.int .u64 x.ts) h2
  have h4 := heap_setCell_same _ g 3 _ T (.int .u64 x.seq) h3
  have h5 := heap_setCell_same _ g 4 _ T (.bool x.del) h4
  exact heap_setCell_same _ g 5 _ T (.string x.val) h5
/-- a variable that is made, and gets its cell -/
theorem QBox.made (T : TypeId) (w : World) (v0 v1 v2 v3 v4 v5 : Value) (x : Cl) : QBox T ((w.alloc (.cells #[v0, v1, v2, v3, v4, v5] T)).setCells w.heap.size 0 x.vals) w.heap.size x ∧ Below w.heap.size w ((w.alloc (.cells #[v0, v1, v2, v3, v4, v5] T)).setCells w.heap.size 0 x.vals) := by
  obtain ⟨h1, h2⟩ := QBox.set (heap_alloc_new w (.cells #[v0, v1, v2, v3, v4, v5] T)) x
  exact ⟨h1, below_grown ((Below.refl _ w).alloc (Nat.le_refl _) _) (by rw [World.size_alloc]; omega) h2 (Nat.le_refl _)⟩
theorem QBox.madeW (T : TypeId) (w : World) (v0 v1 v2 v3 v4 v5 : Value) (x : Cl) {M : World → Prop} (h : ∀ w1, Hid (QBox T w1 w.heap.size x) → Hid (Below w.heap.size w w1) → M w1) : M ((w.alloc (.cells #[v0, v1, v2, v3, v4, v5] T)).setCells w.heap.size 0 x.vals.toArray.toList) := by
  obtain ⟨h1, h2⟩ := QBox.made T w v0 v1 v2 v3 v4 v5 x
  exact h _ (Lib.hid h1) (Lib.hid h2)
theorem QBox.there_made (T : TypeId) (w : World) (v0 v1 v2 v3 v4 v5 : Value) : (w.alloc (.cells #[v0, v1, v2, v3, v4, v5] T)).there w.heap.size 0 6 := fun j hj => by
  have h := heap_alloc_new w (.cells #[v0, v1, v2, v3, v4, v5] T)
  refine ⟨?_, frozen_of_row _ _ _ _ _ h⟩
  rw [Nat.zero_add, cell_of_row _ _ _ _ _ (0, 0) h, Array.getElem?_eq_getElem (by simpa using hj)]
  rfl
end Go.Proofs.Ytoligmmjmghgnaa
