/-
  Words for memory: a slice that reads as a list of cells, below a block number; how it is kept.
  No conditions.
-/
import Derived.Test.YtaeemeoffnhgfaaPlain
import Derived.Below
import Derived.Laws.OwnMore
import Derived.Deep.AppendLies
import Derived.Deep.Draws
import Derived.Maps.AppendAt
import Derived.Lib.Hide
namespace Go.Proofs.Ytaeemeoffnhgfaa
open Go.RowKit

/-- from the address A on lie the values xs, in a block below B -/
def Rd (w : World) (B : Nat) (A : Option Addr) (xs : List Value) : Prop :=
  xs ≠ [] → ∃ b o, A = some ⟨b, o, none⟩ ∧ b < B ∧ ∀ j (h : j < xs.length), w.cell? ⟨b, o + j, none⟩ = some xs[j]

section
variable {w w' : World} {B B' : Nat} {A : Option Addr} {xs : List Value}
theorem Rd.nil : Rd w B A [] := fun h => absurd rfl h
theorem Rd.keep (h : Rd w B A xs) (hk : ∀ p : Addr, p.block < B → w'.cell? p = w.cell? p) : Rd w' B A xs := fun hn => by
  obtain ⟨b, o, e, hb, hc⟩ := h hn
  exact ⟨b, o, e, hb, fun j hj => (hk _ hb).trans (hc j hj)⟩
theorem Rd.more (h : Rd w B A xs) (hB : B ≤ B') : Rd w B' A xs := fun hn => by
  obtain ⟨b, o, e, hb, hc⟩ := h hn
  exact ⟨b, o, e, Nat.lt_of_lt_of_le hb hB, hc⟩
theorem Rd.below (h : Rd w B A xs) (hb : Below B w w') : Rd w' B A xs := h.keep fun _ hp => hb.cell hp
theorem Rd.drew (h : Rd w B A xs) : Rd w.drew B A xs := h
theorem Rd.drewN (h : Rd w B A xs) (k : Nat) : Rd (w.drewN k) B A xs := h
theorem Rd.alloc (h : Rd w B A xs) (hB : B ≤ w.heap.size) (o : Obj) : Rd (w.alloc o) B A xs := h.keep fun p hp => World.cell?_alloc_lt w o p (by omega)
theorem Rd.setCell (h : Rd w B A xs) {p : Addr} (hB : B ≤ p.block) (u : Value) : Rd (w.setCell p u) B A xs :=
  h.keep fun q hq => World.cell?_setCell_other w p q u (fun e => by subst e; omega)
theorem Rd.grown (h : Rd w B A xs) {row : Option Nat} (hg : w.grownBy w' row) (hB : B ≤ w.heap.size) (hr : ∀ g, row = some g → B ≤ g) : Rd w' B A xs :=
  h.keep fun p hp => World.cell?_of_block (hg.block p.block (by omega) (fun e => by have := hr _ e.symm; omega))
/-- where there is an element, there is an address -/
theorem Rd.at_ (h : Rd w B A xs) (hn : xs ≠ []) : ∃ b o, A = some ⟨b, o, none⟩ ∧ b < B ∧ ∀ j (h : j < xs.length), w.cell? ⟨b, o + j, none⟩ = some xs[j] := h hn
/-- a cut at the front -/
theorem Rd.drop (h : Rd w B A xs) (k : Nat) : Rd w B (A.map (·.add k)) (xs.drop k) := fun hn => by
  have hx : xs ≠ [] := fun e => hn (by rw [e, List.drop_nil])
  obtain ⟨b, o, rfl, hb, hc⟩ := h hx
  have hk : k < xs.length := by
    rcases Nat.lt_or_ge k xs.length with h | h
    · exact h
    · exact absurd (List.drop_eq_nil_of_le h) hn
  refine ⟨b, o + k, ?_, hb, fun j hj => ?_⟩
  · simp only [Option.map_some, Addr.add]
    split
    · next e => subst e; rfl
    · rfl
  · have hj' : k + j < xs.length := by rw [List.length_drop] at hj; omega
    rw [List.getElem_drop, Nat.add_assoc]
    exact hc (k + j) hj'
theorem Rd.take (h : Rd w B A xs) (k : Nat) : Rd w B A (xs.take k) := fun hn => by
  have hx : xs ≠ [] := fun e => hn (by rw [e, List.take_nil])
  obtain ⟨b, o, rfl, hb, hc⟩ := h hx
  refine ⟨b, o, rfl, hb, fun j hj => ?_⟩
  rw [List.length_take] at hj
  rw [List.getElem_take]
  exact hc j (by omega)
theorem Rd.of_row (h : ∃ b o, A = some ⟨b, o, none⟩ ∧ b < B ∧ ∀ j (h : j < xs.length), w.cell? ⟨b, o + j, none⟩ = some xs[j]) : Rd w B A xs := fun _ => h
end

/-- a variable of its own: a block of one cell -/
def Box (w : World) (g : Nat) (e : TypeId) (v : Value) : Prop := w.heap[g]? = some (.cells #[v] e (0, 0))
section
variable {w w' : World} {g : Nat} {e : TypeId} {v u : Value}
theorem Box.lt (h : Box w g e v) : g < w.heap.size := by
  rcases Nat.lt_or_ge g w.heap.size with hl | hl
  · exact hl
  · unfold Box at h; rw [Array.getElem?_eq_none hl] at h; cases h
theorem Box.cell (h : Box w g e v) : w.cell? ⟨g, 0, none⟩ = some v := by rw [cell_of_row w g 0 _ e (0, 0) h]; rfl
theorem Box.free (h : Box w g e v) : w.frozen? ⟨g, 0, none⟩ = false := frozen_of_row w g 0 _ e h
theorem Box.new (w : World) (e : TypeId) (v : Value) : Box (w.alloc (.cells #[v] e)) w.heap.size e v := heap_alloc_new w _
theorem Box.drew (h : Box w g e v) : Box w.drew g e v := h
theorem Box.drewN (h : Box w g e v) (n : Nat) : Box (w.drewN n) g e v := h
theorem Box.alloc (h : Box w g e v) (o : Obj) : Box (w.alloc o) g e v := (Below.heap_alloc w o g h.lt).trans h
theorem Box.below {B : Nat} (h : Box w g e v) (hb : Below B w w') (hg : g < B) : Box w' g e v := (hb.block g hg).trans h
theorem Box.set (h : Box w g e v) (u : Value) : Box (w.setCell ⟨g, 0, none⟩ u) g e u := by
  unfold Box at h ⊢
  simp [World.setCell, Array.getElem?_modify, h]
theorem Box.far (h : Box w g e v) {p : Addr} (hp : g ≠ p.block) (u : Value) : Box (w.setCell p u) g e v := (Below.heap_setCell w p u g hp).trans h
theorem Box.grown (h : Box w g e v) {row : Option Nat} (hg : w.grownBy w' row) (hne : some g ≠ row) : Box w' g e v := (hg.block g h.lt hne).trans h
end

theorem Rd.new1 (w : World) (e : TypeId) (v : Value) : Rd (w.alloc (.cells #[v] e)) (w.heap.size + 1) (some ⟨w.heap.size, 0, none⟩) [v] := fun _ =>
  ⟨w.heap.size, 0, rfl, by omega, fun j hj => by
    have : j = 0 := by simpa using hj
    subst this
    exact (Box.new w e v).cell⟩

theorem getElem_vals (l : List Cl) (k j : Nat) (hk : k < l.length) (hj : j < 6) (h : 6 * k + j < (vals l).length) :
    (vals l)[6 * k + j] = (l[k].vals)[j]'(by simpa [Cl.vals] using hj) := by
  induction l generalizing k with
  | nil => simp at hk
  | cons c l ih =>
    cases k with
    | zero =>
      have : (vals (c :: l)) = c.vals ++ vals l := rfl
      simp only [this, Nat.mul_zero, Nat.zero_add, List.getElem_cons_zero]
      rw [List.getElem_append_left]
    | succ k =>
      have e : (vals (c :: l)) = c.vals ++ vals l := rfl
      have hl : c.vals.length = 6 := rfl
      simp only [e, List.getElem_cons_succ]
      rw [List.getElem_append_right (by omega)]
      have := ih k (by simpa using hk) (by rw [length_vals]; simp at hk; omega)
      rw [← this]
      congr 1
      omega

/-- the slice of cells: its k-th cell, field by field -/
theorem Rd.cell_at {w : World} {B b o : Nat} {l : List Cl} (hc : ∀ j (h : j < (vals l).length), w.cell? ⟨b, o + j, none⟩ = some (vals l)[j]) (k : Nat) (hk : k < l.length) :
    w.cell? ⟨b, o + k * 6, none⟩ = some (.string l[k].row) ∧ w.cell? ⟨b, o + k * 6 + 1, none⟩ = some (.string l[k].col) ∧ w.cell? ⟨b, o + k * 6 + 2, none⟩ = some (.int .u64 l[k].ts) ∧
    w.cell? ⟨b, o + k * 6 + 3, none⟩ = some (.int .u64 l[k].seq) ∧ w.cell? ⟨b, o + k * 6 + 4, none⟩ = some (.bool l[k].del) ∧ w.cell? ⟨b, o + k * 6 + 5, none⟩ = some (.string l[k].val) := by
  have hl := length_vals l
  have f : ∀ j (hj : j < 6), w.cell? ⟨b, o + k * 6 + j, none⟩ = some ((l[k].vals)[j]'(by simpa [Cl.vals] using hj)) := fun j hj => by
    have h1 : 6 * k + j < (vals l).length := by omega
    have h2 := hc (6 * k + j) h1
    rw [getElem_vals l k j hk hj h1] at h2
    rw [← h2]
    congr 2
    omega
  exact ⟨f 0 (by omega), f 1 (by omega), f 2 (by omega), f 3 (by omega), f 4 (by omega), f 5 (by omega)⟩

/-- the address of what is left of a slice behind m elements -/
def tailA (A : Option Addr) (c m size : Nat) : Option Addr := if c = m then A else A.map (·.add (m * size))
theorem run_tail {P : Program} {t e : TypeId} {i : TypeInfo} {size : Nat} (ht : P.underlying t = some (.slice e)) (hi : P.info? e = some i) (hs : i.size = size) (A : Option Addr) (n c m : Nat) (hm : m ≤ n) (W : World) :
    (Instr.slice t (.slice A n c) (some (.int .i64 (m : Int))) none none).run P W = .ok (.slice (tailA A c m size) (n - m) (c - m)) W := by
  have he : P.underlying t = some (.slice (P.elem t)) := by rw [ht]; simp [Program.elem, ht]
  have hee : P.elem t = e := by simp [Program.elem, ht]
  rw [run_slice_l (P := P) W t A n c he .i64 m (by omega) (by omega), hee]
  simp [sizeOf, typeInfo, hi, Result.andThen, sliced, tailA, hs]
theorem run_mid {P : Program} {t e : TypeId} {i : TypeInfo} {size : Nat} (ht : P.underlying t = some (.slice e)) (hi : P.info? e = some i) (hs : i.size = size) (A : Option Addr) (n c m k : Nat) (hm : m ≤ k) (hk : k ≤ c) (W : World) :
    (Instr.slice t (.slice A n c) (some (.int .i64 (m : Int))) (some (.int .i64 (k : Int))) none).run P W = .ok (.slice (tailA A c m size) (k - m) (c - m)) W := by
  have he : P.underlying t = some (.slice (P.elem t)) := by rw [ht]; simp [Program.elem, ht]
  have hee : P.elem t = e := by simp [Program.elem, ht]
  rw [run_slice_lh (P := P) W t A n c he .i64 .i64 m k (by omega) (by omega) (by omega), hee]
  simp [sizeOf, typeInfo, hi, Result.andThen, sliced, tailA, hs]

theorem run_mid' {P : Program} {t e : TypeId} {i : TypeInfo} {size : Nat} (ht : P.underlying t = some (.slice e)) (hi : P.info? e = some i) (hs : i.size = size) (A : Option Addr) (n c m k : Nat) (z : Int) (hz : z = (k : Int)) (hm : m ≤ k) (hk : k ≤ c) (W : World) :
    (Instr.slice t (.slice A n c) (some (.int .i64 (m : Int))) (some (.int .i64 z)) none).run P W = .ok (.slice (tailA A c m size) (k - m) (c - m)) W := by
  subst hz
  exact run_mid ht hi hs A n c m k hm hk W

end Go.Proofs.Ytaeemeoffnhgfaa
