/-
  Words for the variables of manifest.Apply. No conditions.
-/
import Derived.Test.YtaeemeoffnhgfaaCount
import Derived.Laws.ResultCell
namespace Go.Proofs.Ytaeemeoffnhgfaa
open Go.RowKit

def stC (A : Option Addr) (n c : Nat) (nx fl : Int) : Array Value := #[.slice A n c, .int .u64 nx, .int .u64 fl]
def edC (A : Option Addr) (n c : Nat) (A' : Option Addr) (n' c' : Nat) (nx fl : Int) : Array Value := #[.slice A n c, .slice A' n' c', .int .u64 nx, .int .u64 fl]
def stV (A : Option Addr) (n c : Nat) (nx fl : Int) : Value := .agg (stC A n c nx fl)
def edV (A : Option Addr) (n c : Nat) (A' : Option Addr) (n' c' : Nat) (nx fl : Int) : Value := .agg (edC A n c A' n' c' nx fl)
/-- the three variables, made behind w0: the state, the edit, the answer (zero yet) -/
def ApB (w0 w : World) (sv ev : Array Value) : Prop := Below w0.heap.size w0 w ∧ w0.heap.size + 1 + 1 + 1 ≤ w.heap.size ∧ w.heap[w0.heap.size]? = some (.cells sv 30 (0, 0)) ∧
  w.heap[w0.heap.size + 1]? = some (.cells ev 36 (0, 0)) ∧ w.heap[w0.heap.size + 1 + 1]? = some (.cells #[.slice none 0 0, .int .u64 0, .int .u64 0] 30 (0, 0))
theorem below_alloc3 (w : World) (a b c : Obj) : Below w.heap.size w (((w.alloc a).alloc b).alloc c) :=
  ((((Below.refl _ w).alloc (Nat.le_refl _) a).alloc (by rw [World.size_alloc]; omega) b).alloc (by rw [World.size_alloc, World.size_alloc]; omega) c)
theorem ApB.made (w : World) (sv ev : Array Value) : ApB w (((w.alloc (.cells sv 30)).alloc (.cells ev 36)).alloc (.cells #[.slice none 0 0, .int .u64 0, .int .u64 0] 30)) sv ev := by
  refine ⟨below_alloc3 _ _ _ _, by simp only [World.size_alloc]; omega, ?_, ?_, ?_⟩
  · rw [Below.heap_alloc _ _ _ (by simp only [World.size_alloc]; omega), Below.heap_alloc _ _ _ (by simp only [World.size_alloc]; omega)]
    exact heap_alloc_new _ _
  · rw [Below.heap_alloc _ _ _ (by simp only [World.size_alloc]; omega)]
    have := heap_alloc_new (w.alloc (.cells sv 30)) (.cells ev 36)
    rw [World.size_alloc] at this
    exact this
  · have := heap_alloc_new ((w.alloc (.cells sv 30)).alloc (.cells ev 36)) (.cells #[.slice none 0 0, .int .u64 0, .int .u64 0] 30)
    rw [World.size_alloc, World.size_alloc] at this
    exact this
theorem ApB.below {w0 w w' : World} {sv ev : Array Value} {B : Nat} (h : ApB w0 w sv ev) (hb : Below B w w') (hB : w0.heap.size + 1 + 1 + 1 ≤ B) : ApB w0 w' sv ev := by
  obtain ⟨h1, h2, h3, h4, h5⟩ := h
  exact ⟨h1.trans (hb.mono (by omega)), Nat.le_trans h2 hb.size, (hb.block _ (by omega)).trans h3, (hb.block _ (by omega)).trans h4, (hb.block _ (by omega)).trans h5⟩
theorem ApB.st {w0 w : World} {ev : Array Value} {A : Option Addr} {n c : Nat} {nx fl : Int} (h : ApB w0 w (stC A n c nx fl) ev) : w.cell? ⟨w0.heap.size, 0, none⟩ = some (.slice A n c) ∧ w.cell? ⟨w0.heap.size, 1, none⟩ = some (.int .u64 nx) ∧ w.cell? ⟨w0.heap.size, 2, none⟩ = some (.int .u64 fl) := by
  have f := fun j => cell_of_row w _ j _ _ (0, 0) h.2.2.1
  exact ⟨f 0, f 1, f 2⟩
theorem ApB.ed {w0 w : World} {sv : Array Value} {A A' : Option Addr} {n c n' c' : Nat} {nx fl : Int} (h : ApB w0 w sv (edC A n c A' n' c' nx fl)) : w.cell? ⟨w0.heap.size + 1, 0, none⟩ = some (.slice A n c) ∧ w.cell? ⟨w0.heap.size + 1, 1, none⟩ = some (.slice A' n' c') ∧ w.cell? ⟨w0.heap.size + 1, 2, none⟩ = some (.int .u64 nx) ∧ w.cell? ⟨w0.heap.size + 1, 3, none⟩ = some (.int .u64 fl) := by
  have f := fun j => cell_of_row w _ j _ _ (0, 0) h.2.2.2.1
  exact ⟨f 0, f 1, f 2, f 3⟩
theorem ApB.there {w0 w : World} {sv ev : Array Value} (h : ApB w0 w sv ev) : w.there (w0.heap.size + 1 + 1) 0 3 := fun j hj => by
  have h := h.2.2.2.2
  refine ⟨?_, frozen_of_row _ _ _ _ _ h⟩
  rw [Nat.zero_add, cell_of_row _ _ _ _ _ (0, 0) h, Array.getElem?_eq_getElem (by simpa using hj)]
  rfl
/-- the answer is set -/
theorem ApB.putW {w0 w : World} {sv ev : Array Value} (h : ApB w0 w sv ev) (A : Option Addr) (n c : Nat) (nx fl : Int) {M : World → Prop}
    (hM : ∀ w', Hid (Below w0.heap.size w0 w' ∧ w.grownBy w' (some (w0.heap.size + 1 + 1))) → w'.cell? ⟨w0.heap.size + 1 + 1, 0, none⟩ = some (.slice A n c) → w'.cell? ⟨w0.heap.size + 1 + 1, 1, none⟩ = some (.int .u64 nx) → w'.cell? ⟨w0.heap.size + 1 + 1, 2, none⟩ = some (.int .u64 fl) → M w') :
    M (w.setCells (w0.heap.size + 1 + 1) 0 (stC A n c nx fl).toList) := by
  have h5 := h.2.2.2.2
  have hg := (setCells_block _ _ (stC A n c nx fl).toList 0 w _ h5).2
  have h1 := heap_setCell_same w _ 0 _ _ (.slice A n c) h5
  have h2 := heap_setCell_same _ _ 1 _ _ (.int .u64 nx) h1
  have h3 := heap_setCell_same _ _ 2 _ _ (.int .u64 fl) h2
  have f := fun j => cell_of_row _ _ j _ _ (0, 0) h3
  exact hM _ (Lib.hid ⟨below_grown h.1 h.1.size hg (by omega), hg⟩) (f 0) (f 1) (f 2)
theorem stC_one (A : Option Addr) (n c : Nat) (nx fl : Int) : (stC A n c nx fl).all (·.oneCell') = true := by simp [stC, Value.oneCell']
theorem app_results {fn : Func} (h : fn.results = #[.cell 4 30, .tmp 5]) (tmps : Array Value) (w : World) (g : Nat) (A : Option Addr) (n c : Nat) (nx fl : Int) (v : Value) (h4 : tmps.getD 4 undef = .pointer (some ⟨g, 0, none⟩)) (h5 : tmps.getD 5 undef = v)
    (d0 : w.cell? ⟨g, 0, none⟩ = some (.slice A n c)) (d1 : w.cell? ⟨g, 1, none⟩ = some (.int .u64 nx)) (d2 : w.cell? ⟨g, 2, none⟩ = some (.int .u64 fl)) :
    (results fn tmps).run Try.prog w = .ok (.tuple #[.agg #[.slice A n c, .int .u64 nx, .int .u64 fl], v]) w := by
  have hr : w.rangeAt g 0 [.slice A n c, .int .u64 nx, .int .u64 fl] := fun j v hv => by
    match j, hv with
    | 0, hv => simp at hv; subst hv; exact d0
    | 1, hv => simp at hv; subst hv; exact d1
    | 2, hv => simp at hv; subst hv; exact d2
    | j + 3, hv => simp at hv
  rw [results_cell_tmp h, h4, h5]
  simp only [asAddr, Sem.run_pure, Result.andThen_ok, run_loadVar_mid w g 0 30 _ _ hr Try.underlying30 rfl (by kernel_rfl)]
end Go.Proofs.Ytaeemeoffnhgfaa
