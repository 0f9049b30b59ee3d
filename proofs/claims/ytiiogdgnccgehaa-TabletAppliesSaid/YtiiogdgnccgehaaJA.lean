/-
  Plain data, no program: cells as Lean data, the order of texts, and the comparisons of cells. Words for memory: a slice that reads as a list of cells, below a block number; how it is kept. Words for memory of the call's own: a slice that owns its row; append onto it, from whatever source. Regions that draw their order: an operation is taken first where a condition on the world gives its value, and the condition is owed only till a last operation comes up, which waits for all that is taken first. In a plain activation and in a round of a loop over an iterator. append, where a guard stands ahead of it; a region in which two operations may come up. Words for memory: a block that holds structs, one behind the other; one of them stored anew. Words for memory: a row of structs cut short, with what is behind it stored anew; clear. No conditions.
-/
import Derived.WalkKit
import Derived.WalkLawsBesides
import Derived.Lib.Bytealg
import Derived.Below
import Derived.Laws.OwnMore
import Derived.Deep.AppendLies
import Derived.Deep.Draws
import Derived.Maps.AppendAt
import Derived.Lib.Hide
import Derived.RegionTactic
import Derived.OwnWalk
import Derived.OrdersHeld
import Derived.OrdersIn
import Derived.RangeFuncCalls
import Derived.Deep.MidRow
import Derived.Lib.SliceRun
namespace Go.Proofs.Ytiiogdgnccgehaa
open Go.RowKit

/-- is the one text below the other -/
def lt (a b : ByteArray) : Bool := Op.bytesLess a.toList b.toList
/-- the order of texts, as a number: -1, 0, 1 -/
def txt (a b : ByteArray) : Int := if lt a b then -1 else if lt b a then 1 else 0

theorem less_irrefl : ∀ l : List UInt8, Op.bytesLess l l = false
  | [] => rfl
  | a :: l => by simp [Op.bytesLess, less_irrefl l]
theorem less_trans : ∀ a b c : List UInt8, Op.bytesLess a b = true → Op.bytesLess b c = true → Op.bytesLess a c = true
  | _, [], _, h, _ => by cases ‹List UInt8› <;> simp [Op.bytesLess] at h
  | _, _ :: _, [], _, h => by simp [Op.bytesLess] at h
  | [], _ :: _, _ :: _, _, _ => by simp [Op.bytesLess]
  | x :: a, y :: b, z :: c, h, k => by
    simp only [Op.bytesLess, Bool.or_eq_true, Bool.and_eq_true, decide_eq_true_eq, beq_iff_eq] at h k ⊢
    rcases h with h | ⟨rfl, h⟩ <;> rcases k with k | ⟨rfl, k⟩
    · exact .inl (UInt8.lt_trans h k)
    · exact .inl h
    · exact .inl k
    · exact .inr ⟨rfl, less_trans a b c h k⟩
theorem less_total : ∀ a b : List UInt8, Op.bytesLess a b = false → Op.bytesLess b a = false → a = b
  | [], [], _, _ => rfl
  | [], _ :: _, h, _ => by simp [Op.bytesLess] at h
  | _ :: _, [], _, h => by simp [Op.bytesLess] at h
  | x :: a, y :: b, h, k => by
    simp only [Op.bytesLess, Bool.or_eq_false_iff, decide_eq_false_iff_not, Bool.and_eq_false_iff, beq_eq_false_iff_ne] at h k
    obtain ⟨h1, h2⟩ := h
    obtain ⟨k1, k2⟩ := k
    have e : x = y := by
      rw [UInt8.lt_iff_toNat_lt] at h1 k1
      exact UInt8.toNat.inj (by omega)
    subst e
    rw [less_total a b (by simpa using h2) (by simpa using k2)]

theorem toList_inj {a b : ByteArray} (h : a.toList = b.toList) : a = b := by
  rw [ByteArray.toList_eq, ByteArray.toList_eq] at h
  obtain ⟨⟨x⟩⟩ := a
  obtain ⟨⟨y⟩⟩ := b
  simpa using h

theorem lt_irrefl (a : ByteArray) : lt a a = false := less_irrefl _
theorem lt_trans {a b c : ByteArray} (h : lt a b = true) (k : lt b c = true) : lt a c = true := less_trans _ _ _ h k
theorem lt_total {a b : ByteArray} (h : lt a b = false) (k : lt b a = false) : a = b := toList_inj (less_total _ _ h k)
theorem lt_asymm {a b : ByteArray} (h : lt a b = true) : lt b a = false := by
  cases k : lt b a with
  | false => rfl
  | true => have := lt_trans h k; rw [lt_irrefl] at this; cases this
theorem compare_txt (a b : ByteArray) : Lib.compareBytes a.data.toList b.data.toList = txt a b := by
  have main : ∀ x y : List UInt8, Lib.compareBytes x y = if Op.bytesLess x y then -1 else if Op.bytesLess y x then 1 else 0 := by
    intro x
    induction x with
    | nil => intro y; cases y <;> rfl
    | cons x xs ih =>
      intro y
      cases y with
      | nil => rfl
      | cons y ys =>
        simp only [Lib.compareBytes, Op.bytesLess]
        by_cases h : x < y
        · simp [h]
        · by_cases k : y < x
          · have hne : ¬ x = y := by rintro rfl; exact h k
            simp [h, k, hne]
          · have e : x = y := by
              rw [UInt8.lt_iff_toNat_lt] at h k
              exact UInt8.toNat.inj (by omega)
            subst e
            simp [h, ih]
  rw [main, txt, lt, lt, ByteArray.toList_eq, ByteArray.toList_eq]

theorem txt_m {a b : ByteArray} (h : Op.bytesLess a.toList b.toList = true) : (-1 : Int) = txt a b := by simp [txt, lt, h]
theorem txt_p {a b : ByteArray} (h : Op.bytesLess a.toList b.toList = false) (k : (!a.toList == b.toList) = true) : (1 : Int) = txt a b := by
  have hn : ¬ a = b := by rintro rfl; simp at k
  cases h2 : Op.bytesLess b.toList a.toList with
  | true => simp [txt, lt, h, h2]
  | false => exact absurd (lt_total h h2) hn
theorem txt_0 {a b : ByteArray} (k : (!a.toList == b.toList) = false) : (0 : Int) = txt a b := by
  have e : a = b := toList_inj (by simpa using k)
  subst e
  simp [txt, lt_irrefl]
theorem txt_self (a : ByteArray) : txt a a = 0 := by simp [txt, lt_irrefl]
theorem txt_eq {a b : ByteArray} : txt a b = 0 ↔ a = b := by
  unfold txt
  cases h : lt a b <;> cases k : lt b a <;> simp
  · exact lt_total h k
  · rintro rfl; rw [lt_irrefl] at k; cases k
  · rintro rfl; rw [lt_irrefl] at h; cases h
  · rintro rfl; rw [lt_irrefl] at h; cases h

theorem ret_int {k : IntKind} {a b : Int} (h : a = b) : Ending.returned (.int k a) = .returned (.int k b) := by rw [h]
theorem ret_bool {a b : Bool} (h : a = b) : Ending.returned (.bool a) = .returned (.bool b) := by rw [h]

/-- a cell as data -/
structure Cl where
  row : ByteArray
  col : ByteArray
  ts : Nat
  seq : Nat
  del : Bool
  val : ByteArray
  deriving DecidableEq

def Cl.vals (c : Cl) : List Value := [.string c.row, .string c.col, .int .u64 c.ts, .int .u64 c.seq, .bool c.del, .string c.val]
abbrev Cl.agg (c : Cl) : Value := .agg #[.string c.row, .string c.col, .int .u64 c.ts, .int .u64 c.seq, .bool c.del, .string c.val]
def vals (l : List Cl) : List Value := l.flatMap Cl.vals

/-- numbers, by size: -1, 0, 1 -/
def num (a b : Nat) : Int := if a < b then -1 else if b < a then 1 else 0
/-- the first that is not 0 -/
def first (l : List Int) : Int := (l.find? (· != 0)).getD 0

theorem first_nil : first [] = 0 := rfl
theorem first_cons (z : Int) (l : List Int) : first (z :: l) = if z = 0 then first l else z := by
  unfold first
  by_cases h : z = 0 <;> simp [h]
theorem first_all {l : List Int} (h : ∀ z ∈ l, z = 0) : first l = 0 := by
  induction l with
  | nil => rfl
  | cons z l ih => rw [first_cons, if_pos (h z (by simp)), ih fun z hz => h z (by simp [hz])]
theorem first_take {l : List Int} {k : Nat} (hk : k < l.length) (h : ∀ z ∈ l.take k, z = 0) (hne : l[k] ≠ 0) : first l = l[k] := by
  induction l generalizing k with
  | nil => simp at hk
  | cons z l ih =>
    cases k with
    | zero => rw [first_cons, if_neg (by simpa using hne)]; rfl
    | succ k =>
      rw [first_cons, if_pos (h z (by simp))]
      exact ih (by simpa using hk) (fun y hy => h y (by simp [hy])) (by simpa using hne)

def Cl.cmp (a b : Cl) : Int := first [txt a.row b.row, txt a.col b.col, num b.ts a.ts, num b.seq a.seq]

theorem length_vals (l : List Cl) : (vals l).length = 6 * l.length := by
  induction l with
  | nil => rfl
  | cons c l ih => simp [vals, Cl.vals] at *; omega

end Go.Proofs.Ytiiogdgnccgehaa
namespace Go.Proofs.Ytiiogdgnccgehaa
open Go.RowKit

/-- from the address A on lie the values xs, in a block below B -/
def Rd (w : World) (B : Nat) (A : Option Addr) (xs : List Value) : Prop :=
  xs ≠ [] → ∃ b o, A = some ⟨b, o, none⟩ ∧ b < B ∧ ∀ j (h : j < xs.length), w.cell? ⟨b, o + j, none⟩ = some xs[j]

section
variable {w w' : World} {B B' : Nat} {A : Option Addr} {xs : List Value}
theorem Rd.nil : Rd w B A [] := fun h => absurd rfl h
theorem Rd.keep (h : Rd w B A xs) (hk : ∀ p : Addr, p.block < B → w'.cell? p = w.cell? p) : Rd w' B A xs := fun hn => by
  obtain ⟨b, o, e, hb, hc⟩ := h hn
  exact ⟨b, o, e, hb, fun j hj => (hk _ hb).trans (hc j hj)⟩
theorem Rd.more (h : Rd w B A xs) (hB : B ≤ B') : Rd w B' A xs := fun hn => by
  obtain ⟨b, o, e, hb, hc⟩ := h hn
  exact ⟨b, o, e, Nat.lt_of_lt_of_le hb hB, hc⟩
theorem Rd.below (h : Rd w B A xs) (hb : Below B w w') : Rd w' B A xs := h.keep fun _ hp => hb.cell hp
theorem Rd.drew (h : Rd w B A xs) : Rd w.drew B A xs := h
theorem Rd.drewN (h : Rd w B A xs) (k : Nat) : Rd (w.drewN k) B A xs := h
theorem Rd.alloc (h : Rd w B A xs) (hB : B ≤ w.heap.size) (o : Obj) : Rd (w.alloc o) B A xs := h.keep fun p hp => World.cell?_alloc_lt w o p (by omega)
theorem Rd.setCell (h : Rd w B A xs) {p : Addr} (hB : B ≤ p.block) (u : Value) : Rd (w.setCell p u) B A xs :=
  h.keep fun q hq => World.cell?_setCell_other w p q u (fun e => by subst e; omega)
theorem Rd.grown (h : Rd w B A xs) {row : Option Nat} (hg : w.grownBy w' row) (hB : B ≤ w.heap.size) (hr : ∀ g, row = some g → B ≤ g) : Rd w' B A xs :=
  h.keep fun p hp => World.cell?_of_block (hg.block p.block (by omega) (fun e => by have := hr _ e.symm; omega))
/-- where there is an element, there is an address -/
theorem Rd.at_ (h : Rd w B A xs) (hn : xs ≠ []) : ∃ b o, A = some ⟨b, o, none⟩ ∧ b < B ∧ ∀ j (h : j < xs.length), w.cell? ⟨b, o + j, none⟩ = some xs[j] := h hn
/-- a cut at the front -/
theorem Rd.drop (h : Rd w B A xs) (k : Nat) : Rd w B (A.map (·.add k)) (xs.drop k) := fun hn => by
  have hx : xs ≠ [] := fun e => hn (by rw [e, List.drop_nil])
  obtain ⟨b, o, rfl, hb, hc⟩ := h hx
  have hk : k < xs.length := by
    rcases Nat.lt_or_ge k xs.length with h | h
    · exact h
    · exact absurd (List.drop_eq_nil_of_le h) hn
  refine ⟨b, o + k, ?_, hb, fun j hj => ?_⟩
  · simp only [Option.map_some, Addr.add]
    split
    · next e => subst e; rfl
    · rfl
  · have hj' : k + j < xs.length := by rw [List.length_drop] at hj; omega
    rw [List.getElem_drop, Nat.add_assoc]
    exact hc (k + j) hj'
theorem Rd.take (h : Rd w B A xs) (k : Nat) : Rd w B A (xs.take k) := fun hn => by
  have hx : xs ≠ [] := fun e => hn (by rw [e, List.take_nil])
  obtain ⟨b, o, rfl, hb, hc⟩ := h hx
  refine ⟨b, o, rfl, hb, fun j hj => ?_⟩
  rw [List.length_take] at hj
  rw [List.getElem_take]
  exact hc j (by omega)
theorem Rd.of_row (h : ∃ b o, A = some ⟨b, o, none⟩ ∧ b < B ∧ ∀ j (h : j < xs.length), w.cell? ⟨b, o + j, none⟩ = some xs[j]) : Rd w B A xs := fun _ => h
end

/-- a variable of its own: a block of one cell -/
def Box (w : World) (g : Nat) (e : TypeId) (v : Value) : Prop := w.heap[g]? = some (.cells #[v] e (0, 0))
section
variable {w w' : World} {g : Nat} {e : TypeId} {v u : Value}
theorem Box.lt (h : Box w g e v) : g < w.heap.size := by
  rcases Nat.lt_or_ge g w.heap.size with hl | hl
  · exact hl
  · unfold Box at h; rw [Array.getElem?_eq_none hl] at h; cases h
theorem Box.cell (h : Box w g e v) : w.cell? ⟨g, 0, none⟩ = some v := by rw [cell_of_row w g 0 _ e (0, 0) h]; rfl
theorem Box.free (h : Box w g e v) : w.frozen? ⟨g, 0, none⟩ = false := frozen_of_row w g 0 _ e h
theorem Box.new (w : World) (e : TypeId) (v : Value) : Box (w.alloc (.cells #[v] e)) w.heap.size e v := heap_alloc_new w _
theorem Box.drew (h : Box w g e v) : Box w.drew g e v := h
theorem Box.drewN (h : Box w g e v) (n : Nat) : Box (w.drewN n) g e v := h
theorem Box.alloc (h : Box w g e v) (o : Obj) : Box (w.alloc o) g e v := (Below.heap_alloc w o g h.lt).trans h
theorem Box.below {B : Nat} (h : Box w g e v) (hb : Below B w w') (hg : g < B) : Box w' g e v := (hb.block g hg).trans h
theorem Box.set (h : Box w g e v) (u : Value) : Box (w.setCell ⟨g, 0, none⟩ u) g e u := by
  unfold Box at h ⊢
  simp [World.setCell, Array.getElem?_modify, h]
theorem Box.far (h : Box w g e v) {p : Addr} (hp : g ≠ p.block) (u : Value) : Box (w.setCell p u) g e v := (Below.heap_setCell w p u g hp).trans h
theorem Box.grown (h : Box w g e v) {row : Option Nat} (hg : w.grownBy w' row) (hne : some g ≠ row) : Box w' g e v := (hg.block g h.lt hne).trans h
end

theorem Rd.new1 (w : World) (e : TypeId) (v : Value) : Rd (w.alloc (.cells #[v] e)) (w.heap.size + 1) (some ⟨w.heap.size, 0, none⟩) [v] := fun _ =>
  ⟨w.heap.size, 0, rfl, by omega, fun j hj => by
    have : j = 0 := by simpa using hj
    subst this
    exact (Box.new w e v).cell⟩

theorem getElem_vals (l : List Cl) (k j : Nat) (hk : k < l.length) (hj : j < 6) (h : 6 * k + j < (vals l).length) :
    (vals l)[6 * k + j] = (l[k].vals)[j]'(by simpa [Cl.vals] using hj) := by
  induction l generalizing k with
  | nil => simp at hk
  | cons c l ih =>
    cases k with
    | zero =>
      have : (vals (c :: l)) = c.vals ++ vals l := rfl
      simp only [this, Nat.mul_zero, Nat.zero_add, List.getElem_cons_zero]
      rw [List.getElem_append_left]
    | succ k =>
      have e : (vals (c :: l)) = c.vals ++ vals l := rfl
      have hl : c.vals.length = 6 := rfl
      simp only [e, List.getElem_cons_succ]
      rw [List.getElem_append_right (by omega)]
      have := ih k (by simpa using hk) (by rw [length_vals]; simp at hk; omega)
      rw [← this]
      congr 1
      omega

/-- the slice of cells: its k-th cell, field by field -/
theorem Rd.cell_at {w : World} {_B b o : Nat} {l : List Cl} (hc : ∀ j (h : j < (vals l).length), w.cell? ⟨b, o + j, none⟩ = some (vals l)[j]) (k : Nat) (hk : k < l.length) :
    w.cell? ⟨b, o + k * 6, none⟩ = some (.string l[k].row) ∧ w.cell? ⟨b, o + k * 6 + 1, none⟩ = some (.string l[k].col) ∧ w.cell? ⟨b, o + k * 6 + 2, none⟩ = some (.int .u64 l[k].ts) ∧
    w.cell? ⟨b, o + k * 6 + 3, none⟩ = some (.int .u64 l[k].seq) ∧ w.cell? ⟨b, o + k * 6 + 4, none⟩ = some (.bool l[k].del) ∧ w.cell? ⟨b, o + k * 6 + 5, none⟩ = some (.string l[k].val) := by
  have hl := length_vals l
  have f : ∀ j (hj : j < 6), w.cell? ⟨b, o + k * 6 + j, none⟩ = some ((l[k].vals)[j]'(by simpa [Cl.vals] using hj)) := fun j hj => by
    have h1 : 6 * k + j < (vals l).length := by omega
    have h2 := hc (6 * k + j) h1
    rw [getElem_vals l k j hk hj h1] at h2
    rw [← h2]
    congr 2
    omega
  exact ⟨f 0 (by omega), f 1 (by omega), f 2 (by omega), f 3 (by omega), f 4 (by omega), f 5 (by omega)⟩

/-- the address of what is left of a slice behind m elements -/
def tailA (A : Option Addr) (c m size : Nat) : Option Addr := if c = m then A else A.map (·.add (m * size))
theorem run_tail {P : Program} {t e : TypeId} {i : TypeInfo} {size : Nat} (ht : P.underlying t = some (.slice e)) (hi : P.info? e = some i) (hs : i.size = size) (A : Option Addr) (n c m : Nat) (hm : m ≤ n) (W : World) :
    (Instr.slice t (.slice A n c) (some (.int .i64 (m : Int))) none none).run P W = .ok (.slice (tailA A c m size) (n - m) (c - m)) W := by
  have he : P.underlying t = some (.slice (P.elem t)) := by rw [ht]; simp [Program.elem, ht]
  have hee : P.elem t = e := by simp [Program.elem, ht]
  rw [run_slice_l (P := P) W t A n c he .i64 m (by omega) (by omega), hee]
  simp [sizeOf, typeInfo, hi, Result.andThen, sliced, tailA, hs]
theorem run_mid {P : Program} {t e : TypeId} {i : TypeInfo} {size : Nat} (ht : P.underlying t = some (.slice e)) (hi : P.info? e = some i) (hs : i.size = size) (A : Option Addr) (n c m k : Nat) (hm : m ≤ k) (hk : k ≤ c) (W : World) :
    (Instr.slice t (.slice A n c) (some (.int .i64 (m : Int))) (some (.int .i64 (k : Int))) none).run P W = .ok (.slice (tailA A c m size) (k - m) (c - m)) W := by
  have he : P.underlying t = some (.slice (P.elem t)) := by rw [ht]; simp [Program.elem, ht]
  have hee : P.elem t = e := by simp [Program.elem, ht]
  rw [run_slice_lh (P := P) W t A n c he .i64 .i64 m k (by omega) (by omega) (by omega), hee]
  simp [sizeOf, typeInfo, hi, Result.andThen, sliced, tailA, hs]

theorem run_mid' {P : Program} {t e : TypeId} {i : TypeInfo} {size : Nat} (ht : P.underlying t = some (.slice e)) (hi : P.info? e = some i) (hs : i.size = size) (A : Option Addr) (n c m k : Nat) (z : Int) (hz : z = (k : Int)) (hm : m ≤ k) (hk : k ≤ c) (W : World) :
    (Instr.slice t (.slice A n c) (some (.int .i64 (m : Int))) (some (.int .i64 z)) none).run P W = .ok (.slice (tailA A c m size) (k - m) (c - m)) W := by
  subst hz
  exact run_mid ht hi hs A n c m k hm hk W

end Go.Proofs.Ytiiogdgnccgehaa
namespace Go.Proofs.Ytiiogdgnccgehaa
open Go.RowKit

/-- the slice owns a row of its own from block base on, with the values xs -/
def Own (w : World) (base : Nat) (e : TypeId) (size : Nat) (A : Option Addr) (n c : Nat) (xs : List Value) : Prop := w.ownsRow base e size (.slice A n c) n xs
/-- the block of an address -/
def blk (A : Option Addr) : Option Nat := A.map (·.block)
theorem ownBlock_slice (A : Option Addr) (n c : Nat) : (Value.slice A n c).ownBlock = blk A := by cases A <;> rfl

section
variable {w w' : World} {base base' e size n c : Nat} {A : Option Addr} {xs : List Value}
theorem Own.length (h : Own w base e size A n c xs) : xs.length = n * size := h.1
theorem Own.nil : Own w base e size none 0 0 [] := World.ownsRow_nil w base e size
theorem Own.lt (h : Own w base e size A n c xs) : ∀ k, blk A = some k → base ≤ k ∧ k < w.heap.size := fun k hk => World.ownsRow.lt h k (by rw [ownBlock_slice]; exact hk)
theorem Own.keep (h : Own w base e size A n c xs) (hk : ∀ k, blk A = some k → w'.heap[k]? = w.heap[k]?) : Own w' base e size A n c xs := by
  obtain ⟨h1, h2⟩ := h
  refine ⟨h1, ?_⟩
  rcases h2 with h2 | ⟨g, cap, cur, hv, hb, hh, h3, h4, h5, h6⟩
  · exact .inl h2
  · exact .inr ⟨g, cap, cur, hv, hb, by rw [hk g (by injection hv with hA; rw [hA]; rfl)]; exact hh, h3, h4, h5, h6⟩
theorem Own.below (h : Own w base e size A n c xs) (hb : Below w.heap.size w w') : Own w' base e size A n c xs := h.keep fun k hk => hb.block k (h.lt k hk).2
theorem Own.drew (h : Own w base e size A n c xs) : Own w.drew base e size A n c xs := h
theorem Own.drewN (h : Own w base e size A n c xs) (k : Nat) : Own (w.drewN k) base e size A n c xs := h
theorem Own.alloc (h : Own w base e size A n c xs) (o : Obj) : Own (w.alloc o) base e size A n c xs := h.keep fun k hk => Below.heap_alloc _ _ _ (h.lt k hk).2
theorem Own.setCell (h : Own w base e size A n c xs) {p : Addr} (hp : blk A ≠ some p.block) (u : Value) : Own (w.setCell p u) base e size A n c xs :=
  h.keep fun k hk => Below.heap_setCell _ _ _ _ (fun e => hp (by rw [hk, e]))
theorem Own.grown (h : Own w base e size A n c xs) {row : Option Nat} (hg : w.grownBy w' row) (hne : blk A = none ∨ blk A ≠ row) : Own w' base e size A n c xs :=
  h.keep fun k hk => hg.block k (h.lt k hk).2 (fun e => hne.elim (fun h0 => by rw [h0] at hk; cases hk) (fun h0 => h0 (by rw [hk, e])))
theorem Own.lower (h : Own w base e size A n c xs) (hb : base' ≤ base) : Own w base' e size A n c xs := by
  obtain ⟨h1, h2⟩ := h
  refine ⟨h1, ?_⟩
  rcases h2 with h2 | ⟨g, cap, cur, hv, hg, hr⟩
  · exact .inl h2
  · exact .inr ⟨g, cap, cur, hv, by omega, hr⟩
theorem Own.rd (h : Own w base e size A n c xs) (_hs : 0 < size) : Rd w w.heap.size A xs := fun hn => by
  obtain ⟨h1, h2⟩ := h
  rcases h2 with ⟨_, h2⟩ | ⟨g, cap, cur, hv, hg, hh, h3, h4, h5, h6⟩
  · rw [h2, Nat.zero_mul] at h1
    exact absurd (List.eq_nil_of_length_eq_zero h1) hn
  · injection hv with hA
    subst hA
    have hgl : g < w.heap.size := by
      rcases Nat.lt_or_ge g w.heap.size with hl | hl
      · exact hl
      · rw [Array.getElem?_eq_none hl] at hh; cases hh
    refine ⟨g, 0, rfl, hgl, fun j hj => ?_⟩
    rw [Nat.zero_add, cell_of_row w g j cur e (0, 0) hh, ← Array.getElem?_toList]
    have : (cur.toList.take (n * size))[j]? = some xs[j] := by rw [h6]; exact List.getElem?_eq_getElem hj
    rw [List.getElem?_take] at this
    split at this
    · exact this
    · cases this
end

theorem Own.at_ {w : World} {base e n c : Nat} {A : Option Addr} {xs : List Value} (h : Own w base e 1 A n c xs) (hn : 0 < n) : ∃ g, A = some ⟨g, 0, none⟩ ∧ base ≤ g ∧ g < w.heap.size ∧ ∀ j (hj : j < xs.length), w.cell? ⟨g, j, none⟩ = some xs[j] ∧ w.frozen? ⟨g, j, none⟩ = false := by
  have hr := h.rd (by omega)
  have hl := h.1
  rcases h.2 with ⟨_, h2⟩ | ⟨g, cap, cur, hv, hg, hh, h3, h4, h5, h6⟩
  · omega
  · injection hv with hA
    subst hA
    obtain ⟨b, o, e1, hb, hc⟩ := hr (fun e => by rw [e] at hl; simp at hl; omega)
    injection e1 with e1
    injection e1 with e2 e3
    subst e2
    subst e3
    exact ⟨g, rfl, hg, hb, fun j hj => ⟨by have := hc j hj; rwa [Nat.zero_add] at this, frozen_of_row w g j cur e hh⟩⟩

theorem Own.grow {w0 w w' : World} {B base e size n c : Nat} {A : Option Addr} {xs : List Value} (h : Own w base e size A n c xs) (hb : Below B w0 w) (hB : B ≤ w.heap.size) (hbase : B ≤ base) (hg : w.grownBy w' (blk A)) : Below B w0 w' :=
  hb.grown hg hB (fun k hk => Nat.le_trans hbase (h.lt k hk.symm.symm).1)

theorem add_at (b o j : Nat) : (⟨b, o, none⟩ : Addr).add j = ⟨b, o + j, none⟩ := by
  unfold Addr.add
  split
  · next h => subst h; rfl
  · rfl

section
variable {P : Program} (w : World)
theorem run_app (base : Nat) (t ty e : TypeId) (i : TypeInfo) (z : Value) (size bytes : Nat) (ht : P.underlying t = some (.slice e)) (hi : P.info? e = some i) (hz : i.zero = some z)
    (hsize : i.size = size) (hby : i.bytes = bytes) (hzs : z.cells.size = size) (hsz : 0 < size)
    (A : Option Addr) (n c : Nat) (xs : List Value) (hown : Own w base e size A n c xs)
    (B : Nat) (A2 : Option Addr) (m c2 : Nat) (news : List Value) (hr : Rd w B A2 news) (hl : news.length = m * size) (h1 : ∀ u ∈ news, u.oneCell' = true)
    (h63 : n + m ≤ maxLen) (hbytes : (n + m) * bytes ≤ 140737488355328) (hbase : base ≤ w.heap.size) :
    ∃ A' c' w', (Builtin.append_ #[t, t] ty #[.slice A n c, .slice A2 m c2]).run P w = .ok (.slice A' (n + m) c') w' ∧ Own w' base e size A' (n + m) c' (xs ++ news) ∧ w.grownBy w' (blk A) ∧
      (blk A' = blk A ∨ blk A' = some w.heap.size) := by
  have fin : ∀ (v' : Value) (w' : World), w'.ownsRow base e size v' (n + m) (xs ++ news) → ∃ (A' : Option Addr) (c' : Nat), v' = .slice A' (n + m) c' := fun v' w' h => by
    rcases h.2 with ⟨h2, h3⟩ | ⟨g, cap, cur, hv, _⟩
    · exact ⟨none, 0, by rw [h2, h3]⟩
    · exact ⟨_, _, hv⟩
  rcases A2 with _ | ad
  · have hn : news = [] := by
      rcases news with _ | ⟨u, l⟩
      · rfl
      · obtain ⟨b, o, h, _⟩ := hr (by simp)
        cases h
    subst hn
    have hm : m = 0 := by
      rcases Nat.eq_zero_or_pos m with h | h
      · exact h
      · have := Nat.mul_pos h hsz
        simp at hl
        omega
    subst hm
    refine ⟨A, c, w, ?_, by simpa using hown, World.grownBy.refl w _, .inl rfl⟩
    rcases hown.2 with ⟨h2, h3⟩ | ⟨g, cap, cur, hv, _, _, hnc, _⟩
    · injection h2 with e1 e2 e3
      subst e1 e2 e3
      simp [Builtin.append_, run_underlying ht, sizeOf, typeInfo, hi, Builtin.lenOf, Builtin.firstCells]
    · injection hv with e1 e2 e3
      subst e1 e3
      simp [Builtin.append_, run_underlying ht, sizeOf, typeInfo, hi, Builtin.lenOf, Builtin.firstCells, hnc, storeCells]
  · have hcells : ∀ j u, news[j]? = some u → w.cell? (ad.add j) = some u := fun j u hu => by
      have hj : j < news.length := by
        rcases Nat.lt_or_ge j news.length with h | h
        · exact h
        · rw [List.getElem?_eq_none h] at hu; cases hu
      obtain ⟨b, o, h, _, hc⟩ := hr (by rintro rfl; simp at hj)
      injection h with h
      subst h
      rw [add_at, hc j hj, ← hu, List.getElem?_eq_getElem hj]
    obtain ⟨v', w', hrun, h2, h3, _, h5⟩ := run_append_own_at (P := P) w base t ty e i z size bytes ht hi hz hsize hby hzs hsz _ n xs hown ad m c2 news hl hcells h1 h63 hbytes hbase
    obtain ⟨A', c', rfl⟩ := fin v' w' h2
    rw [ownBlock_slice] at h3 h5
    rw [ownBlock_slice] at h5
    exact ⟨A', c', w', hrun, h2, h3, h5⟩

theorem wp_app {o : Oper} {a : Act} {K : Act → World → Prop} {Q : Exit → Act → World → Prop} (s x : Operand) (t : TypeId)
    (ho : o.op = .call { callee := .builtin .append, args := #[s, x], argTypes := #[t, t] })
    (base : Nat) (e : TypeId) (i : TypeInfo) (z : Value) (size bytes : Nat) (ht : P.underlying t = some (.slice e)) (hi : P.info? e = some i) (hz : i.zero = some z)
    (hsize : i.size = size) (hby : i.bytes = bytes) (hzs : z.cells.size = size) (hsz : 0 < size)
    (A : Option Addr) (n c : Nat) (xs : List Value) (hs : a.eval s = .slice A n c) (hown : Own w base e size A n c xs)
    (B : Nat) (A2 : Option Addr) (m c2 : Nat) (news : List Value) (hx : a.eval x = .slice A2 m c2) (hr : Rd w B A2 news) (hl : news.length = m * size) (h1 : ∀ u ∈ news, u.oneCell' = true)
    (h63 : n + m ≤ maxLen) (hbytes : (n + m) * bytes ≤ 140737488355328) (hbase : base ≤ w.heap.size)
    (h : ∀ A' c' w', Own w' base e size A' (n + m) c' (xs ++ news) → w.grownBy w' (blk A) → (blk A' = blk A ∨ blk A' = some w.heap.size) → K (a.put o.dst (.slice A' (n + m) c')) w') : o.wp P a w K Q := by
  obtain ⟨A', c', w', hrun, h2, h3, h4⟩ := run_app (P := P) w base t o.type e i z size bytes ht hi hz hsize hby hzs hsz A n c xs hown B A2 m c2 news hr hl h1 h63 hbytes hbase
  unfold Oper.wp execOp
  simp only [ho, resolve, invoke, builtin, Sem.run_bind, Sem.run_pure, Result.andThen_ok, List.map_toArray, List.map_cons, List.map_nil, hs, hx, hrun]
  exact h A' c' w' h2 h3 h4

theorem wpList_app {ops : Array Oper} {rest : List Oper} {o : Oper} {a : Act} {Q : Exit → Act → World → Prop} (hgd : o.guard = none) (s x : Operand) (t : TypeId)
    (ho : o.op = .call { callee := .builtin .append, args := #[s, x], argTypes := #[t, t] })
    (base : Nat) (e : TypeId) (i : TypeInfo) (z : Value) (size bytes : Nat) (ht : P.underlying t = some (.slice e)) (hi : P.info? e = some i) (hz : i.zero = some z)
    (hsize : i.size = size) (hby : i.bytes = bytes) (hzs : z.cells.size = size) (hsz : 0 < size)
    (A : Option Addr) (n c : Nat) (xs : List Value) (hs : a.eval s = .slice A n c) (hown : Own w base e size A n c xs)
    (B : Nat) (A2 : Option Addr) (m c2 : Nat) (news : List Value) (hx : a.eval x = .slice A2 m c2) (hr : Rd w B A2 news) (hl : news.length = m * size) (h1 : ∀ u ∈ news, u.oneCell' = true)
    (h63 : n + m ≤ maxLen) (hbytes : (n + m) * bytes ≤ 140737488355328) (hbase : base ≤ w.heap.size)
    (h : ∀ A' c' w', Own w' base e size A' (n + m) c' (xs ++ news) → w.grownBy w' (blk A) → (blk A' = blk A ∨ blk A' = some w.heap.size) → wpList P ops Q rest (a.put o.dst (.slice A' (n + m) c')) w') : wpList P ops Q (o :: rest) a w :=
  wpList_plain hgd fun _ hK => wp_app w s x t ho base e i z size bytes ht hi hz hsize hby hzs hsz A n c xs hs hown B A2 m c2 news hx hr hl h1 h63 hbytes hbase fun A' c' w' h2 h3 h4 => hK _ _ (h A' c' w' h2 h3 h4)

theorem step_app {ops : Array Oper} {o : Oper} {a : Act} {K : Act → World → Prop} {Q : Exit → Act → World → Prop} {E : Prop} (hgd : o.guard = none) (s x : Operand) (t : TypeId)
    (ho : o.op = .call { callee := .builtin .append, args := #[s, x], argTypes := #[t, t] })
    (base : Nat) (e : TypeId) (i : TypeInfo) (z : Value) (size bytes : Nat) (ht : P.underlying t = some (.slice e)) (hi : P.info? e = some i) (hz : i.zero = some z)
    (hsize : i.size = size) (hby : i.bytes = bytes) (hzs : z.cells.size = size) (hsz : 0 < size)
    (A : Option Addr) (n c : Nat) (xs : List Value) (hs : a.eval s = .slice A n c) (hown : Own w base e size A n c xs)
    (B : Nat) (A2 : Option Addr) (m c2 : Nat) (news : List Value) (hx : a.eval x = .slice A2 m c2) (hr : Rd w B A2 news) (hl : news.length = m * size) (h1 : ∀ u ∈ news, u.oneCell' = true)
    (h63 : n + m ≤ maxLen) (hbytes : (n + m) * bytes ≤ 140737488355328) (hbase : base ≤ w.heap.size)
    (h : ∀ A' c' w', Own w' base e size A' (n + m) c' (xs ++ news) → w.grownBy w' (blk A) → (blk A' = blk A ∨ blk A' = some w.heap.size) → K (a.put o.dst (.slice A' (n + m) c')) w') :
    if Region.wanted o (yielded ops a.tmps) = true then Oper.wp P o a w K Q else E := by
  have hw : Region.wanted o (yielded ops a.tmps) = true := by simp [Region.wanted, hgd]
  rw [if_pos hw]
  exact wp_app w s x t ho base e i z size bytes ht hi hz hsize hby hzs hsz A n c xs hs hown B A2 m c2 news hx hr hl h1 h63 hbytes hbase h
end

theorem vals_append (l m : List Cl) : vals l ++ vals m = vals (l ++ m) := by simp [vals]
theorem vals_one (l : List Cl) : ∀ u ∈ vals l, u.oneCell' = true := by
  intro u hu
  simp only [vals, List.mem_flatMap, Cl.vals] at hu
  obtain ⟨c, _, hu⟩ := hu
  simp only [List.mem_cons, List.not_mem_nil, or_false] at hu
  rcases hu with rfl | rfl | rfl | rfl | rfl | rfl <;> rfl

end Go.Proofs.Ytiiogdgnccgehaa
namespace Go.Proofs.Ytiiogdgnccgehaa
open Go.RowKit

section
variable {P : Program} {ops : Array Oper} {Q : Exit → Act → World → Prop} {md : Region.Mode} {C : World → Prop} {zo : Option Nat}

/-- the last operation has not come up yet -/
def Before (zo : Option Nat) (L : Array Bool) : Prop := ∀ z, zo = some z → L.getD z true = false

/-- whatever order is picked from here on; C holds behind each operation that comes up ahead of the last one -/
def WZ (P : Program) (md : Region.Mode) (ops : Array Oper) (Q : Exit → Act → World → Prop) (C : World → Prop) (zo : Option Nat) : Nat → Array Bool → Act → World → Prop
  | 0, L, a, w => Region.ready md ops L = [] ∧ Q .normal a w
  | fuel + 1, L, a, w =>
    (Region.ready md ops L = [] → Q .normal a w) ∧
    ∀ i ∈ Region.ready md ops L, wpOp P ops Q i (fun a' w' => (Before zo (L.setIfInBounds i true) → C w') ∧ WZ P md ops Q C zo fuel (L.setIfInBounds i true) a' w') a w

theorem WZ.any : ∀ (fuel : Nat) (L : Array Bool) (a : Act) (w : World), WZ P md ops Q C zo fuel L a w → wpAny P md ops Q fuel L a w
  | 0, _, _, _, h => h
  | fuel + 1, _, _, _, h => ⟨h.1, fun i hi => wpOp_mono (fun a' w' h' => WZ.any fuel _ a' w' h'.2) (h.2 i hi)⟩

/-- the last operation waits for this one -/
def WaitsFor (md : Region.Mode) (ops : Array Oper) (z i : Nat) : Bool := match ops[z]? with
  | some oz => oz.after.any fun e => Region.binds md e && e.on == i
  | none => false

theorem before_set {L : Array Bool} {i : Nat} (hw : ∀ z, zo = some z → z ≠ i) : Before zo (L.setIfInBounds i true) ↔ Before zo L := by
  constructor
  · intro h z hz
    rw [← getD_set_ne true (Ne.symm (hw z hz))]
    exact h z hz
  · intro h z hz
    rw [getD_set_ne true (Ne.symm (hw z hz))]
    exact h z hz

theorem WZ.first {i : Nat} {oi : Oper} {v : Value} (hi : ops[i]? = some oi) (hsel : ∀ (j : Nat) (o : Oper) cs b, ops[j]? = some o → o.op ≠ .select cs b)
    (hQ : ∀ c a w, Q (.panic c) (a.put oi.dst v) w → Q (.panic c) a w) (hwait : ∀ z, zo = some z → z ≠ i ∧ WaitsFor md ops z i = true) :
    ∀ (fuel : Nat) (L : Array Bool) (a : Act) (w : World),
      (∀ j oj, ops[j]? = some oj → j ≠ i → L.getD j true = false → (∀ e ∈ oj.after, Region.binds md e = true → e.on ≠ i) → oi.apart ops oj = true) →
      i ∈ Region.ready md ops L → YieldsIf P ops C oi v a → Before zo L → C w →
      WZ P md ops Q C zo fuel (L.setIfInBounds i true) (a.put oi.dst v) w → WZ P md ops Q C zo (fuel + 1) L a w := by
  have hne : ∀ z, zo = some z → z ≠ i := fun z hz => (hwait z hz).1
  intro fuel
  induction fuel with
  | zero =>
    intro L a w _ hr hy hb hC H
    refine ⟨fun h => (by rw [h] at hr; cases hr), fun j hj => ?_⟩
    by_cases hji : j = i
    · subst hji; exact hy.wpOp hi hC ⟨fun _ => hC, H⟩
    · have := ready_mono hj hji
      rw [H.1] at this
      cases this
  | succ fuel ih =>
    intro L a w hfree hr hy hb hC H
    refine ⟨fun h => (by rw [h] at hr; cases hr), fun j hj => ?_⟩
    by_cases hji : j = i
    · subst hji; exact hy.wpOp hi hC ⟨fun _ => hC, H⟩
    · have h1 := H.2 j (ready_mono hj hji)
      obtain ⟨hjun, oj, hoj, hall⟩ := mem_ready.1 hj
      have hnot : ∀ e ∈ oj.after, Region.binds md e = true → e.on ≠ i := fun e he hb heq => by
        have h1 := hall e he hb
        have h0 := (mem_ready.1 hr).1
        rw [heq] at h1
        rcases Nat.lt_or_ge i L.size with h' | h'
        · simp [h'] at h0 h1; rw [h0] at h1; cases h1
        · simp [Array.getElem?_eq_none h'] at h1
      have hjz : ∀ z, zo = some z → z ≠ j := fun z hz hzj => by
        subst hzj
        have := (hwait z hz).2
        unfold WaitsFor at this
        rw [hoj] at this
        simp only [Array.any_eq_true', Bool.and_eq_true, beq_iff_eq] at this
        obtain ⟨e, he, h2, h3⟩ := this
        exact hnot e he h2 h3
      have h2 := wpOp_putIf hoj (hfree j oj hoj hji hjun hnot) (fun cs b => hsel i oi cs b hi) (fun cs b => hsel j oj cs b hoj) hQ hy h1
      have hfree' : ∀ k ok, ops[k]? = some ok → k ≠ i → (L.setIfInBounds j true).getD k true = false →
          (∀ e ∈ ok.after, Region.binds md e = true → e.on ≠ i) → oi.apart ops ok = true := fun k ok hk hki hun hno => by
        refine hfree k ok hk hki ?_ hno
        by_cases hjk : j = k
        · subst hjk; exact hjun
        · rw [getD_set_ne true hjk] at hun; exact hun
      have hb' : Before zo (L.setIfInBounds j true) := (before_set hjz).2 hb
      refine wpOp_mono (fun a' w' h3 => ?_) h2
      have hC' : C w' := h3.2.1 ((before_set hjz).2 ((before_set hne).2 hb))
      refine ⟨fun _ => hC', ih (L.setIfInBounds j true) a' w' hfree' (ready_mono hr (Ne.symm hji)) h3.1 hb' hC' ?_⟩
      rw [Array.setIfInBounds_comm _ _ hji]
      exact h3.2.2

theorem WZ.firstF {i : Nat} {oi : Oper} {v : Value} (hi : ops[i]? = some oi) (hsel : ∀ (j : Nat) (o : Oper) cs b, ops[j]? = some o → o.op ≠ .select cs b)
    (hQ : ∀ c a w, Q (.panic c) (a.put oi.dst v) w → Q (.panic c) a w) (hne : ∀ z, zo = some z → z ≠ i) :
    ∀ (fuel : Nat) (L : Array Bool) (a : Act) (w : World),
      (∀ j oj, ops[j]? = some oj → j ≠ i → L.getD j true = false → (∀ e ∈ oj.after, Region.binds md e = true → e.on ≠ i) → oi.apart ops oj = true) →
      i ∈ Region.ready md ops L → YieldsIf P ops (fun _ => True) oi v a → (Before zo L → C w) →
      WZ P md ops Q C zo fuel (L.setIfInBounds i true) (a.put oi.dst v) w → WZ P md ops Q C zo (fuel + 1) L a w := by
  intro fuel
  induction fuel with
  | zero =>
    intro L a w _ hr hy hC H
    refine ⟨fun h => (by rw [h] at hr; cases hr), fun j hj => ?_⟩
    by_cases hji : j = i
    · subst hji; exact hy.wpOp hi trivial ⟨fun hb => hC ((before_set hne).1 hb), H⟩
    · have := ready_mono hj hji
      rw [H.1] at this
      cases this
  | succ fuel ih =>
    intro L a w hfree hr hy hC H
    refine ⟨fun h => (by rw [h] at hr; cases hr), fun j hj => ?_⟩
    by_cases hji : j = i
    · subst hji; exact hy.wpOp hi trivial ⟨fun hb => hC ((before_set hne).1 hb), H⟩
    · have h1 := H.2 j (ready_mono hj hji)
      obtain ⟨hjun, oj, hoj, hall⟩ := mem_ready.1 hj
      have hnot : ∀ e ∈ oj.after, Region.binds md e = true → e.on ≠ i := fun e he hb heq => by
        have h1 := hall e he hb
        have h0 := (mem_ready.1 hr).1
        rw [heq] at h1
        rcases Nat.lt_or_ge i L.size with h' | h'
        · simp [h'] at h0 h1; rw [h0] at h1; cases h1
        · simp [Array.getElem?_eq_none h'] at h1
      have h2 := wpOp_putIf hoj (hfree j oj hoj hji hjun hnot) (fun cs b => hsel i oi cs b hi) (fun cs b => hsel j oj cs b hoj) hQ hy h1
      have hfree' : ∀ k ok, ops[k]? = some ok → k ≠ i → (L.setIfInBounds j true).getD k true = false →
          (∀ e ∈ ok.after, Region.binds md e = true → e.on ≠ i) → oi.apart ops ok = true := fun k ok hk hki hun hno => by
        refine hfree k ok hk hki ?_ hno
        by_cases hjk : j = k
        · subst hjk; exact hjun
        · rw [getD_set_ne true hjk] at hun; exact hun
      refine wpOp_mono (fun a' w' h3 => ?_) h2
      have hC' : Before zo (L.setIfInBounds j true) → C w' := fun hb => h3.2.1 (by
        rw [Array.setIfInBounds_comm _ _ (Ne.symm hji)]
        exact (before_set hne).2 hb)
      refine ⟨hC', ih (L.setIfInBounds j true) a' w' hfree' (ready_mono hr (Ne.symm hji)) h3.1 hC' ?_⟩
      rw [Array.setIfInBounds_comm _ _ hji]
      exact h3.2.2

/-- take number i first, which yields its value in any world -/
theorem WZ.takeF {i : Nat} (d : Option Tmp) {oi : Oper} {v : Value} {fuel : Nat} {L : Array Bool} {a a' : Act} {w : World} (hi : ops[i]? = some oi) (hd : oi.dst = d)
    (hs : Region.noSelect ops = true) (hf : Region.free md ops L i = true) (hr : (Region.ready md ops L).contains i = true)
    (hQ : ∀ c a a' w, Q (.panic c) a' w → Q (.panic c) a w) (hwait : (match zo with | some z => z != i | none => true) = true)
    (hy : YieldsIf P ops (fun _ => True) oi v a) (hC : C w) (ha : a.put d v = a')
    (h : WZ P md ops Q C zo fuel (L.setIfInBounds i true) a' w) : WZ P md ops Q C zo (fuel + 1) L a w := by
  subst ha
  subst hd
  refine WZ.firstF hi (Region.noSelect_spec hs) (fun c a w => hQ c a _ w) (fun z hz => ?_) fuel L a w (Region.free_spec hi hf) (by simpa using hr) hy (fun _ => hC) h
  subst hz
  simpa using hwait

/-- take number i first -/
theorem WZ.take {i : Nat} (d : Option Tmp) {oi : Oper} {v : Value} {fuel : Nat} {L : Array Bool} {a a' : Act} {w : World} (hi : ops[i]? = some oi) (hd : oi.dst = d)
    (hs : Region.noSelect ops = true) (hf : Region.free md ops L i = true) (hr : (Region.ready md ops L).contains i = true)
    (hQ : ∀ c a a' w, Q (.panic c) a' w → Q (.panic c) a w) (hwait : (match zo with | some z => z != i && WaitsFor md ops z i && !L.getD z true | none => true) = true)
    (hy : YieldsIf P ops C oi v a) (hC : C w) (ha : a.put d v = a')
    (h : WZ P md ops Q C zo fuel (L.setIfInBounds i true) a' w) : WZ P md ops Q C zo (fuel + 1) L a w := by
  subst ha
  subst hd
  refine WZ.first hi (Region.noSelect_spec hs) (fun c a w => hQ c a _ w) (fun z hz => ?_) fuel L a w (Region.free_spec hi hf) (by simpa using hr) hy (fun z hz => ?_) hC h
  · subst hz
    simp only [Bool.and_eq_true, bne_iff_ne] at hwait
    exact ⟨hwait.1.1, hwait.1.2⟩
  · subst hz
    simp only [Bool.and_eq_true, Bool.not_eq_true'] at hwait
    exact hwait.2

theorem wpOp_of_list {i : Nat} {o : Oper} {K : Act → World → Prop} {a : Act} {w : World} (hi : ops[i]? = some o) (h : wpList P ops (Exit.then K Q) [o] a w) : wpOp P ops Q i K a w := by
  unfold wpOp
  simp only [hi]
  unfold wpList at h
  split
  · next hw =>
    rw [if_pos hw] at h
    rcases h with h | ⟨h1, h2⟩
    · left
      unfold Oper.wp at *
      generalize (execOp a.eval o).run P w = r at *
      cases r with
      | ok n w' =>
        cases n <;> simp only [Oper.upon] at h ⊢ <;>
          first
            | exact h
            | exact Calls.mono h (fun e w'' he => by cases e <;> exact he)
            | exact Rows.mono h (fun _ _ he => he)
      | halt x w' => cases x <;> simp only [Oper.upon] at h ⊢ <;> exact h
    · exact .inr ⟨h1, h2⟩
  · next hw =>
    rw [if_neg hw] at h
    exact h

/-- the only one that may come up, ahead of the last one -/
theorem WZ.one {i : Nat} {o : Oper} {fuel : Nat} {L : Array Bool} {a : Act} {w : World} (hi : ops[i]? = some o) (hr : Region.ready md ops L = [i])
    (h : wpList P ops (Exit.then (fun a' w' => C w' ∧ WZ P md ops Q C zo fuel (L.setIfInBounds i true) a' w') Q) [o] a w) : WZ P md ops Q C zo (fuel + 1) L a w :=
  ⟨fun h0 => (by rw [hr] at h0; cases h0), fun j hj => by
    rw [hr, List.mem_singleton] at hj
    subst hj
    exact wpOp_mono (fun a' w' h' => ⟨fun _ => h'.1, h'.2⟩) (wpOp_of_list hi h)⟩
/-- the last one, and what comes behind it -/
theorem WZ.last {i : Nat} {o : Oper} {fuel : Nat} {L : Array Bool} {a : Act} {w : World} (hi : ops[i]? = some o) (hr : Region.ready md ops L = [i])
    (hz : (match zo with | some z => (L.setIfInBounds i true).getD z true | none => false) = true)
    (h : wpList P ops (Exit.then (fun a' w' => WZ P md ops Q C zo fuel (L.setIfInBounds i true) a' w') Q) [o] a w) : WZ P md ops Q C zo (fuel + 1) L a w :=
  ⟨fun h0 => (by rw [hr] at h0; cases h0), fun j hj => by
    rw [hr, List.mem_singleton] at hj
    subst hj
    refine wpOp_mono (fun a' w' h' => ⟨fun hb => ?_, h'⟩) (wpOp_of_list hi h)
    cases zo with
    | none => simp at hz
    | some z => have := hb z rfl; simp only at hz; rw [hz] at this; cases this⟩
theorem WZ.done {L : Array Bool} {a : Act} {w : World} (hr : Region.ready md ops L = []) (h : Q .normal a w) : ∀ fuel, WZ P md ops Q C zo fuel L a w
  | 0 => ⟨hr, h⟩
  | _ + 1 => ⟨fun _ => h, by rw [hr]; simp⟩

/-- behind a region that does not panic -/
def Calm (K : Act → World → Prop) : Exit → Act → World → Prop := Exit.then K (fun _ _ _ => False)
theorem calm_panic (K : Act → World → Prop) : ∀ c a a' w, Calm K (.panic c) a' w → Calm K (.panic c) a w := fun _ _ _ _ h => h.elim
theorem calm_out (K : Act → World → Prop) : ¬ LetsOut (Calm K) := fun ⟨_, _, h⟩ => h.elim
theorem calm_le {e : Exit} {a : Act} {w : World} (h : Calm (Q .normal) e a w) : Q e a w := by cases e <;> first | exact h | exact h.elim

/-- a region in a plain activation -/
theorem region_wz {id : Nat} {a : Act} {w : World} (C : World → Prop) (zo : Option Nat) (hm : P.follows .mixedOrders = true)
    (h : WZ P .any ops (Calm (Q .normal)) C zo ops.size (Array.replicate ops.size false) a w.drew) : (Code.region id ops true).wp P Q a w :=
  wp_mono (wp_region_any hm (WZ.any _ _ _ _ h)) fun _ _ _ => calm_le

def noDefer (ops : Array Oper) : Bool := ops.all fun o => match o.op with | .defer _ => false | _ => true
theorem noDefer_spec (h : noDefer ops = true) (j : Nat) (o : Oper) (ho : ops[j]? = some o) : ∀ c, o.op ≠ .defer c := by
  intro c heq
  have := Array.all_eq_true_iff_forall_mem.1 h o (Array.mem_of_getElem? ho)
  simp [heq] at this

theorem callsIn_round {r n : Nat} {f : FuncId} {args : Array Value} {w : World} {R : Ending → World → Prop} (h : Calls P f args w R) : CallsIn (Fence.wide.inRound r) n P f args w R :=
  CallsIn.inRound r (callsIn_wide.2 h)
theorem rowsIn_round {r n : Nat} {row : String} {args : Array Value} {w : World} {R : Value → World → Prop} (h : Rows P row args w R) : RowsIn (Fence.wide.inRound r) n P row args w R :=
  fun c cs _ => let ⟨v, w', hr, s⟩ := h c cs; ⟨v, w', hr, stepsIn_wide.2 s⟩

theorem wpOpIn_round {r n i : Nat} {K K' : Act → World → Prop} {a : Act} {w : World} (hd : noDefer ops = true) (hout : ¬ LetsOut Q) (hK : ∀ a w, K a w → K' a w) (h : wpOp P ops Q i K a w) : wpOpIn (Fence.wide.inRound r) n P ops Q i K' a w := by
  unfold wpOp at h
  unfold wpOpIn
  cases ho : ops[i]? with
  | none => rw [ho] at h; exact hK _ _ h
  | some o =>
    rw [ho] at h
    simp only at h ⊢
    split
    · next hw =>
      rw [if_pos hw] at h
      rcases h with h | ⟨_, h⟩
      · refine ⟨fun _ _ => trivial, ?_⟩
        rw [Oper.semAt_eq _ _ _ (noDefer_spec hd i o ho)]
        unfold Oper.wp at h
        generalize (execOp a.eval o).run P w = res at *
        cases res with
        | ok x w' =>
          cases x <;> simp only [Oper.upon, Oper.uponIn] at h ⊢
          case value u => exact hK _ _ h
          case skip => exact hK _ _ h
          case defer d => exact hK _ _ h
          case enter f args =>
            refine ⟨fun h => by simp [Fence.wide] at h, callsIn_round (h.mono fun e w'' he => ?_)⟩
            cases e with
            | returned u => exact hK _ _ he
            | panicked c => exact he
            | outgrown => exact he
          case row row args => exact ⟨fun h => by simp [Fence.wide] at h, rowsIn_round (h.mono fun _ _ he => hK _ _ he)⟩
        | halt x w' => cases x <;> simp only [Oper.upon, Oper.uponIn] at h ⊢ <;> exact h
      · exact absurd h hout
    · next hw =>
      rw [if_neg hw] at h
      exact ⟨fun _ _ => trivial, hK _ _ h⟩

theorem wpAnyIn_round {r n : Nat} (hd : noDefer ops = true) (hout : ¬ LetsOut Q) : ∀ (fuel : Nat) (L : Array Bool) (a : Act) (w : World), wpAny P md ops Q fuel L a w → wpAnyIn (Fence.wide.inRound r) n P md ops Q fuel L a w
  | 0, _, _, _, h => h
  | fuel + 1, _, _, _, h => ⟨h.1, fun i hi => wpOpIn_round hd hout (fun a w => wpAnyIn_round hd hout fuel _ a w) (h.2 i hi)⟩

/-- a region in a round -/
theorem region_wz_round {r n id : Nat} {a : Act} {w : World} (C : World → Prop) (zo : Option Nat) (hm : P.follows .mixedOrders = true) (hd : noDefer ops = true)
    (h : WZ P .any ops (Calm (Q .normal)) C zo ops.size (Array.replicate ops.size false) a w.drew) : (Code.region id ops true).wpIn (Fence.wide.inRound r) n P Q a w :=
  wpIn_mono (wpIn_region_any hm (wpAnyIn_round hd (calm_out _) _ _ _ _ (WZ.any _ _ _ _ h))) fun _ _ _ => calm_le
end

end Go.Proofs.Ytiiogdgnccgehaa
namespace Go.Proofs.Ytiiogdgnccgehaa
open Go.RowKit
section
variable {P : Program}
theorem wpList_app_g {w : World} {ops : Array Oper} {rest : List Oper} {o : Oper} {a : Act} {Q : Exit → Act → World → Prop} (hw : Region.wanted o (yielded ops a.tmps) = true) (s x : Operand) (t : TypeId)
    (ho : o.op = .call { callee := .builtin .append, args := #[s, x], argTypes := #[t, t] })
    (base : Nat) (e : TypeId) (i : TypeInfo) (z : Value) (size bytes : Nat) (ht : P.underlying t = some (.slice e)) (hi : P.info? e = some i) (hz : i.zero = some z)
    (hsize : i.size = size) (hby : i.bytes = bytes) (hzs : z.cells.size = size) (hsz : 0 < size)
    (A : Option Addr) (n c : Nat) (xs : List Value) (hs : a.eval s = .slice A n c) (hown : Own w base e size A n c xs)
    (B : Nat) (A2 : Option Addr) (m c2 : Nat) (news : List Value) (hx : a.eval x = .slice A2 m c2) (hr : Rd w B A2 news) (hl : news.length = m * size) (h1 : ∀ u ∈ news, u.oneCell' = true)
    (h63 : n + m ≤ maxLen) (hbytes : (n + m) * bytes ≤ 140737488355328) (hbase : base ≤ w.heap.size)
    (h : ∀ A' c' w', Own w' base e size A' (n + m) c' (xs ++ news) → w.grownBy w' (blk A) → (blk A' = blk A ∨ blk A' = some w.heap.size) → wpList P ops Q rest (a.put o.dst (.slice A' (n + m) c')) w') : wpList P ops Q (o :: rest) a w :=
  wpList_step fun _ hK => by
    rw [if_pos hw]
    exact wp_app w s x t ho base e i z size bytes ht hi hz hsize hby hzs hsz A n c xs hs hown B A2 m c2 news hx hr hl h1 h63 hbytes hbase fun A' c' w' h2 h3 h4 => hK _ _ (h A' c' w' h2 h3 h4)
theorem WZ.two {ops : Array Oper} {Q : Exit → Act → World → Prop} {md : Region.Mode} {C : World → Prop} {zo : Option Nat} {i j : Nat} {o p : Oper} {fuel : Nat} {L : Array Bool} {a : Act} {w : World} (hi : ops[i]? = some o) (hj : ops[j]? = some p) (hr : Region.ready md ops L = [i, j])
    (h : wpList P ops (Exit.then (fun a' w' => C w' ∧ WZ P md ops Q C zo fuel (L.setIfInBounds i true) a' w') Q) [o] a w)
    (k : wpList P ops (Exit.then (fun a' w' => C w' ∧ WZ P md ops Q C zo fuel (L.setIfInBounds j true) a' w') Q) [p] a w) : WZ P md ops Q C zo (fuel + 1) L a w :=
  ⟨fun h0 => (by rw [hr] at h0; cases h0), fun m hm => by
    rw [hr, List.mem_cons, List.mem_singleton] at hm
    rcases hm with rfl | rfl
    · exact wpOp_mono (fun a' w' h' => ⟨fun _ => h'.1, h'.2⟩) (wpOp_of_list hi h)
    · exact wpOp_mono (fun a' w' h' => ⟨fun _ => h'.1, h'.2⟩) (wpOp_of_list hj k)⟩
end
end Go.Proofs.Ytiiogdgnccgehaa
namespace Go.Proofs.Ytiiogdgnccgehaa
open Go.RowKit

theorem grownBy_refl (w : World) (g : Option Nat) : w.grownBy w g := ⟨rfl, rfl, rfl, Nat.le_refl _, fun _ _ _ => rfl⟩
theorem grownBy_trans {a b c : World} {g : Option Nat} (h : a.grownBy b g) (k : b.grownBy c g) : a.grownBy c g :=
  ⟨k.os.trans h.os, k.tape.trans h.tape, k.output.trans h.output, Nat.le_trans h.size k.size, fun i hi hg => (k.block i (Nat.lt_of_lt_of_le hi h.size) hg).trans (h.block i hi hg)⟩
theorem grownBy_below {a b : World} (h : Below a.heap.size a b) (g : Option Nat) : a.grownBy b g := ⟨h.os, h.tape, h.output, h.size, fun i hi _ => h.block i hi⟩
theorem grownBy_drew {a b : World} {g : Option Nat} (h : a.grownBy b g) (n : Nat) : a.grownBy (b.drewN n) g := ⟨h.os, h.tape, h.output, h.size, h.block⟩
theorem grownBy_drew1 {a b : World} {g : Option Nat} (h : a.grownBy b g) : a.grownBy b.drew g := ⟨h.os, h.tape, h.output, h.size, h.block⟩
theorem below_grown {B : Nat} {w0 a b : World} {g : Nat} (h : Below B w0 a) (hB : B ≤ a.heap.size) (k : a.grownBy b (some g)) (hg : B ≤ g) : Below B w0 b := h.grown k hB (fun r hr => by injection hr with hr; omega)

theorem below_of_drew' {B : Nat} {a w : World} (h : Below B a.drew w) : Below B a w := ⟨h.os, h.tape, h.output, h.size, h.block⟩
theorem below_drewN' {B : Nat} {a w : World} (h : Below B a w) (n : Nat) : Below B a (w.drewN n) := ⟨h.os, h.tape, h.output, h.size, h.block⟩

/-- a block of structs of k cells -/
structure Arr {α : Type} (enc : α → List Value) (k : Nat) (w : World) (g : Nat) (e : TypeId) (S : Nat) (l : List α) : Prop where
  cur : ∃ cur, w.heap[g]? = some (.cells cur e (0, 0)) ∧ cur.size = S
  len : l.length * k ≤ S
  at_ : ∀ i (h : i < l.length), w.rangeAt g (i * k) (enc l[i])

theorem setCells_block (g : Nat) (e : TypeId) : ∀ (vs : List Value) (o : Nat) (w : World) (cur : Array Value), w.heap[g]? = some (.cells cur e (0, 0)) →
    (∃ cur', (w.setCells g o vs).heap[g]? = some (.cells cur' e (0, 0)) ∧ cur'.size = cur.size) ∧ w.grownBy (w.setCells g o vs) (some g)
  | [], o, w, cur, h => ⟨⟨cur, h, rfl⟩, grownBy_refl _ _⟩
  | v :: vs, o, w, cur, h => by
    have h1 : (w.setCell ⟨g, o, none⟩ v).heap[g]? = some (.cells (cur.setIfInBounds o v) e (0, 0)) := heap_setCell_same w g o cur e v h
    obtain ⟨⟨cur', h2, h3⟩, h4⟩ := setCells_block g e vs (o + 1) _ _ h1
    have h5 : w.grownBy (w.setCell ⟨g, o, none⟩ v) (some g) := ⟨rfl, rfl, rfl, by simp [World.setCell], fun k _ hk => heap_setCell_other w ⟨g, o, none⟩ k v (fun e => hk (by simp [e]))⟩
    exact ⟨⟨cur', h2, by rw [h3]; simp⟩, grownBy_trans h5 h4⟩

section
variable {α : Type} {enc : α → List Value} {k : Nat} {w w' : World} {g : Nat} {e : TypeId} {S : Nat} {l : List α}
theorem Arr.lt (h : Arr enc k w g e S l) : g < w.heap.size := by
  obtain ⟨cur, hc, _⟩ := h.cur
  exact (Array.getElem?_eq_some_iff.1 hc).1
theorem Arr.keep (h : Arr enc k w g e S l) (hg : w'.heap[g]? = w.heap[g]?) : Arr enc k w' g e S l :=
  ⟨by rw [hg]; exact h.cur, h.len, fun i hi j v hv => (World.cell?_of_block (a := ⟨g, _, none⟩) hg).trans (h.at_ i hi j v hv)⟩
theorem Arr.drewN (h : Arr enc k w g e S l) (n : Nat) : Arr enc k (w.drewN n) g e S l := h.keep rfl
theorem Arr.drew (h : Arr enc k w g e S l) : Arr enc k w.drew g e S l := h.keep rfl
theorem Arr.below (h : Arr enc k w g e S l) {B : Nat} (hb : Below B w w') (hg : g < B) : Arr enc k w' g e S l := h.keep (hb.block g hg)
theorem Arr.there (h : Arr enc k w g e S l) {o n : Nat} (hn : o + n ≤ S) : w.there g o n := fun j hj => by
  obtain ⟨cur, hc, hs⟩ := h.cur
  refine ⟨?_, frozen_of_row w g (o + j) cur e hc⟩
  rw [cell_of_row w g (o + j) cur e (0, 0) hc, Array.getElem?_eq_getElem (by omega)]
  rfl
theorem mul_le_of {i n k : Nat} (h : i < n) : i * k + k ≤ n * k := by
  have := Nat.mul_le_mul_right k (show i + 1 ≤ n by omega)
  rw [Nat.add_mul, Nat.one_mul] at this
  exact this
theorem Arr.there_at (h : Arr enc k w g e S l) {i : Nat} (hi : i < l.length) : w.there g (i * k) k := h.there (Nat.le_trans (mul_le_of hi) h.len)
theorem Arr.set (h : Arr enc k w g e S l) (hk : ∀ x, (enc x).length = k) {i : Nat} (hi : i < l.length) (y : α) :
    Arr enc k (w.setCells g (i * k) (enc y)) g e S (l.set i y) ∧ w.grownBy (w.setCells g (i * k) (enc y)) (some g) := by
  obtain ⟨cur, hc, hs⟩ := h.cur
  obtain ⟨⟨cur', h1, h2⟩, h3⟩ := setCells_block g e (enc y) (i * k) w cur hc
  refine ⟨⟨⟨cur', h1, h2.trans hs⟩, by rw [List.length_set]; exact h.len, fun j hj => ?_⟩, h3⟩
  rw [List.length_set] at hj
  rw [List.getElem_set]
  split
  · rename_i e
    subst e
    exact World.rangeAt_setCells_same w g _ _ (by rw [hk]; exact h.there_at hi)
  · rename_i e
    refine World.rangeAt_setCells_apart (h.at_ j hj) g _ _ ?_
    rw [hk, hk]
    rcases Nat.lt_or_ge j i with hji | hji
    · exact .inr (.inl (mul_le_of hji))
    · exact .inr (.inr (mul_le_of (by omega)))
/-- out of a row of one's own, and back -/
theorem encs_length (hk : ∀ x, (enc x).length = k) (l : List α) : (l.flatMap enc).length = l.length * k := by
  induction l with
  | nil => simp
  | cons x l ih => rw [List.flatMap_cons, List.length_append, ih, hk, List.length_cons, Nat.add_mul, Nat.one_mul, Nat.add_comm]
theorem encs_get (hk : ∀ x, (enc x).length = k) : ∀ (l : List α) (i j : Nat) (hi : i < l.length) (v : Value), (enc l[i])[j]? = some v → (l.flatMap enc)[i * k + j]? = some v
  | [], i, j, hi, v, h => by simp at hi
  | x :: l, i, j, hi, v, h => by
    rw [List.flatMap_cons]
    cases i with
    | zero =>
      rw [List.getElem_cons_zero] at h
      rw [Nat.zero_mul, Nat.zero_add, List.getElem?_append_left (List.getElem?_eq_some_iff.1 h).1]
      exact h
    | succ i =>
      rw [List.getElem_cons_succ] at h
      have := encs_get hk l i j (by simpa using hi) v h
      rw [List.getElem?_append_right (by rw [hk, Nat.add_mul, Nat.one_mul]; omega), hk]
      rw [← this]
      congr 1
      rw [Nat.add_mul, Nat.one_mul]
      omega
theorem Own.arr {base n c : Nat} {A : Option Addr} (hk : ∀ x, (enc x).length = k) (h : Own w base e k A n c (l.flatMap enc)) (hn : 0 < n) (hk0 : 0 < k) :
    ∃ g S, A = some ⟨g, 0, none⟩ ∧ base ≤ g ∧ S = c * k ∧ n ≤ c ∧ c ≤ maxLen ∧ l.length = n ∧ Arr enc k w g e S l := by
  have hl := h.1
  rw [encs_length hk] at hl
  have hln : l.length = n := Nat.eq_of_mul_eq_mul_right hk0 hl
  rcases h.2 with ⟨_, h2⟩ | ⟨g, cap, cur, hv, hb, hg, h3, h4, h5, h6⟩
  · omega
  · injection hv with hA _ hc
    subst hA hc
    refine ⟨g, cur.size, rfl, hb, h5, h3, h4, hln, ⟨⟨cur, hg, rfl⟩, by rw [hln, h5]; exact Nat.mul_le_mul_right k h3, fun i hi j v hv => ?_⟩⟩
    have h1 := encs_get hk l i j hi v hv
    rw [← h6, List.getElem?_take] at h1
    split at h1
    · rw [cell_of_row w g _ cur e (0, 0) hg, ← Array.getElem?_toList]; exact h1
    · cases h1
theorem Arr.own {base c : Nat} (hk : ∀ x, (enc x).length = k) (hk0 : 0 < k) (h : Arr enc k w g e (c * k) l) (hb : base ≤ g) (hc : l.length ≤ c) (hm : c ≤ maxLen) : Own w base e k (some ⟨g, 0, none⟩) l.length c (l.flatMap enc) := by
  obtain ⟨cur, hg, hs⟩ := h.cur
  refine ⟨by rw [encs_length hk], .inr ⟨g, c, cur, rfl, hb, hg, hc, hm, hs, ?_⟩⟩
  have hlen : l.length * k ≤ cur.size := by rw [hs]; exact Nat.mul_le_mul_right k hc
  apply List.ext_getElem?
  intro p
  rw [List.getElem?_take]
  by_cases hp : p < l.length * k
  · rw [if_pos hp]
    have hi : p / k < l.length := (Nat.div_lt_iff_lt_mul hk0).2 hp
    have hj : p % k < k := Nat.mod_lt _ hk0
    have e1 : p / k * k + p % k = p := by rw [Nat.mul_comm]; exact Nat.div_add_mod p k
    have hv : (enc l[p / k])[p % k]? = some ((enc l[p / k])[p % k]'(by rw [hk]; exact hj)) := List.getElem?_eq_getElem _
    have h1 := h.at_ (p / k) hi (p % k) _ hv
    rw [e1, cell_of_row w g p cur e (0, 0) hg, ← Array.getElem?_toList] at h1
    have h2 := encs_get hk l (p / k) (p % k) hi _ hv
    rw [e1] at h2
    rw [h1, h2]
  · rw [if_neg hp, List.getElem?_eq_none]
    rw [encs_length hk]; omega
end
end Go.Proofs.Ytiiogdgnccgehaa
namespace Go.Proofs.Ytiiogdgnccgehaa
open Go.RowKit
section
variable {α : Type} {enc : α → List Value} {k : Nat} {w w' : World} {g : Nat} {e : TypeId} {S : Nat} {l : List α}
theorem Arr.take (h : Arr enc k w g e S l) (n : Nat) : Arr enc k w g e S (l.take n) :=
  ⟨h.cur, Nat.le_trans (Nat.mul_le_mul_right k (show (l.take n).length ≤ l.length by rw [List.length_take]; omega)) h.len, fun i hi => by
    rw [List.length_take] at hi
    rw [List.getElem_take]
    exact h.at_ i (by omega)⟩
theorem Arr.above (h : Arr enc k w g e S l) (hk : ∀ x, (enc x).length = k) {o : Nat} (ho : l.length * k ≤ o) (vs : List Value) : Arr enc k (w.setCells g o vs) g e S l ∧ w.grownBy (w.setCells g o vs) (some g) := by
  obtain ⟨cur, hc, hs⟩ := h.cur
  obtain ⟨⟨cur', h1, h2⟩, h3⟩ := setCells_block g e vs o w cur hc
  refine ⟨⟨⟨cur', h1, h2.trans hs⟩, h.len, fun j hj => ?_⟩, h3⟩
  refine World.rangeAt_setCells_apart (h.at_ j hj) g _ _ (.inr (.inl ?_))
  rw [hk]
  exact Nat.le_trans (mul_le_of hj) ho
end

theorem mem_zeroCells {z : Array Value} {n : Nat} (h1 : ∀ v ∈ z, v.oneCell' = true) : ∀ v ∈ (Builtin.zeroCells z n).toList, v.oneCell' = true := by
  intro v hv
  unfold Builtin.zeroCells at hv
  simp at hv
  obtain ⟨i, hi, rfl⟩ := hv
  have hz : 0 < z.size := by
    rcases Nat.eq_zero_or_pos z.size with h | h
    · rw [h] at hi; simp at hi
    · exact h
  rw [getElem!_pos z (i % z.size) (Nat.mod_lt _ hz)]
  exact h1 _ (Array.getElem_mem _)
/-- clear of some elements of a row -/
theorem run_clear_mid {P : Program} (w : World) (t e ty : TypeId) (z : Value) (ht : P.underlying t = some (.slice e)) (hv : ∀ w, (zeroValue e).run P w = .ok z w) (h1 : ∀ v ∈ z.cells, v.oneCell' = true) (b o n c : Nat) (hn : 0 < n)
    (hth : w.there b o (Builtin.zeroCells z.cells n).size) :
    (Builtin.clear_ #[t] ty #[.slice (some ⟨b, o, none⟩) n c]).run P w = .ok (.tuple #[]) (w.setCells b o (Builtin.zeroCells z.cells n).toList) := by
  have hst := run_storeCells_cells (P := P) b o (Builtin.zeroCells z.cells n).toList 0 w (fun j hj => by simpa using (hth j (by simpa using hj)).1) (fun j hj => by simpa using (hth j (by simpa using hj)).2) (mem_zeroCells h1)
  simp only [Nat.add_zero] at hst
  obtain ⟨m, rfl⟩ : ∃ m, n = m + 1 := ⟨n - 1, by omega⟩
  simp [Builtin.clear_, run_underlying ht, hv, hst]
end Go.Proofs.Ytiiogdgnccgehaa
