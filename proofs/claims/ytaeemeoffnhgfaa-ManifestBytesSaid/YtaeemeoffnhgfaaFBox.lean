/-
  Words for memory: a file in a block of its own. No conditions.
-/
import Derived.Test.YtaeemeoffnhgfaaRegKit13
namespace Go.Proofs.Ytaeemeoffnhgfaa
open Go.RowKit

def FBox (T : TypeId) (w : World) (g : Nat) (x : Fi) : Prop := w.heap[g]? = some (.cells #[.int .i64 x.level, .string x.name, .string x.low, .string x.high, .int .i64 x.many] T (0, 0))
theorem FBox.lt {T : TypeId} {w : World} {g : Nat} {x : Fi} (h : FBox T w g x) : g < w.heap.size := (Array.getElem?_eq_some_iff.1 h).1
theorem FBox.cells {T : TypeId} {w : World} {g : Nat} {x : Fi} (h : FBox T w g x) : w.cell? ⟨g, 0, none⟩ = some (.int .i64 x.level) ∧ w.cell? ⟨g, 1, none⟩ = some (.string x.name) ∧ w.cell? ⟨g, 2, none⟩ = some (.string x.low) ∧ w.cell? ⟨g, 3, none⟩ = some (.string x.high) ∧ w.cell? ⟨g, 4, none⟩ = some (.int .i64 x.many) := by
  have f := fun j => cell_of_row w g j _ _ (0, 0) h
  exact ⟨f 0, f 1, f 2, f 3, f 4⟩
theorem FBox.range {T : TypeId} {w : World} {g : Nat} {x : Fi} (h : FBox T w g x) : w.rangeAt g 0 x.vals := fun j v hv => by
  rw [Nat.zero_add, cell_of_row w g j _ _ (0, 0) h, ← Array.getElem?_toList]
  exact hv
theorem FBox.keep {T : TypeId} {w w' : World} {g : Nat} {x : Fi} (h : FBox T w g x) (hk : w'.heap[g]? = w.heap[g]?) : FBox T w' g x := hk.trans h
theorem FBox.below {T : TypeId} {w w' : World} {g B : Nat} {x : Fi} (h : FBox T w g x) (hb : Below B w w') (hg : g < B) : FBox T w' g x := h.keep (hb.block g hg)
theorem FBox.new (T : TypeId) (w : World) (x : Fi) : FBox T (w.alloc (.cells #[.int .i64 x.level, .string x.name, .string x.low, .string x.high, .int .i64 x.many] T)) w.heap.size x := heap_alloc_new w _
theorem FBox.set {T : TypeId} {w : World} {g : Nat} {v0 v1 v2 v3 v4 : Value} (h : w.heap[g]? = some (.cells #[v0, v1, v2, v3, v4] T (0, 0))) (x : Fi) : FBox T (w.setCells g 0 x.vals) g x ∧ w.grownBy (w.setCells g 0 x.vals) (some g) := by
  refine ⟨?_, (setCells_block g T x.vals 0 w _ h).2⟩
  have h1 := heap_setCell_same w g 0 _ T (.int .i64 x.level) h
  have h2 := heap_setCell_same _ g 1 _ T (.string x.name) h1
  have h3 := heap_setCell_same _ g 2 _ T (.string x.low) h2
  have h4 := heap_setCell_same _ g 3 _ T (.string x.high) h3
  exact heap_setCell_same _ g 4 _ T (.int .i64 x.many) h4
/-- a variable that is made, and gets its file -/
theorem FBox.made (T : TypeId) (w : World) (v0 v1 v2 v3 v4 : Value) (x : Fi) : FBox T ((w.alloc (.cells #[v0, v1, v2, v3, v4] T)).setCells w.heap.size 0 x.vals) w.heap.size x ∧ Below w.heap.size w ((w.alloc (.cells #[v0, v1, v2, v3, v4] T)).setCells w.heap.size 0 x.vals) := by
  obtain ⟨h1, h2⟩ := FBox.set (heap_alloc_new w (.cells #[v0, v1, v2, v3, v4] T)) x
  exact ⟨h1, below_grown ((Below.refl _ w).alloc (Nat.le_refl _) _) (by rw [World.size_alloc]; omega) h2 (Nat.le_refl _)⟩
theorem FBox.madeW (T : TypeId) (w : World) (v0 v1 v2 v3 v4 : Value) (x : Fi) {M : World → Prop} (h : ∀ w1, Hid (FBox T w1 w.heap.size x) → Hid (Below w.heap.size w w1) → M w1) : M ((w.alloc (.cells #[v0, v1, v2, v3, v4] T)).setCells w.heap.size 0 x.vals.toArray.toList) := by
  obtain ⟨h1, h2⟩ := FBox.made T w v0 v1 v2 v3 v4 x
  exact h _ (Lib.hid h1) (Lib.hid h2)
theorem FBox.there_made (T : TypeId) (w : World) (v0 v1 v2 v3 v4 : Value) : (w.alloc (.cells #[v0, v1, v2, v3, v4] T)).there w.heap.size 0 5 := fun j hj => by
  have h := heap_alloc_new w (.cells #[v0, v1, v2, v3, v4] T)
  refine ⟨?_, frozen_of_row _ _ _ _ _ h⟩
  rw [Nat.zero_add, cell_of_row _ _ _ _ _ (0, 0) h, Array.getElem?_eq_getElem (by simpa using hj)]
  rfl
end Go.Proofs.Ytaeemeoffnhgfaa
