/-
  Plain data, no program: cells as Lean data, the order of texts, and the comparisons of cells.
  No conditions.
-/
import Derived.WalkKit
import Derived.WalkLawsBesides
import Derived.Lib.Bytealg
namespace Go.Proofs.Ytaeemeoffnhgfaa
open Go.RowKit

/-- is the one text below the other -/
def lt (a b : ByteArray) : Bool := Op.bytesLess a.toList b.toList
/-- the order of texts, as a number: -1, 0, 1 -/
def txt (a b : ByteArray) : Int := if lt a b then -1 else if lt b a then 1 else 0

theorem less_irrefl : ∀ l : List UInt8, Op.bytesLess l l = false
  | [] => rfl
  | a :: l => by simp [Op.bytesLess, less_irrefl l]
theorem less_trans : ∀ a b c : List UInt8, Op.bytesLess a b = true → Op.bytesLess b c = true → Op.bytesLess a c = true
  | _, [], _, h, _ => by cases ‹List UInt8› <;> simp [Op.bytesLess] at h
  | _, _ :: _, [], _, h => by simp [Op.bytesLess] at h
  | [], _ :: _, _ :: _, _, _ => by simp [Op.bytesLess]
  | x :: a, y :: b, z :: c, h, k => by
    simp only [Op.bytesLess, Bool.or_eq_true, Bool.and_eq_true, decide_eq_true_eq, beq_iff_eq] at h k ⊢
    rcases h with h | ⟨rfl, h⟩ <;> rcases k with k | ⟨rfl, k⟩
    · exact .inl (UInt8.lt_trans h k)
    · exact .inl h
    · exact .inl k
    · exact .inr ⟨rfl, less_trans a b c h k⟩
theorem less_total : ∀ a b : List UInt8, Op.bytesLess a b = false → Op.bytesLess b a = false → a = b
  | [], [], _, _ => rfl
  | [], _ :: _, h, _ => by simp [Op.bytesLess] at h
  | _ :: _, [], _, h => by simp [Op.bytesLess] at h
  | x :: a, y :: b, h, k => by
    simp only [Op.bytesLess, Bool.or_eq_false_iff, decide_eq_false_iff_not, Bool.and_eq_false_iff, beq_eq_false_iff_ne] at h k
    obtain ⟨h1, h2⟩ := h
    obtain ⟨k1, k2⟩ := k
    have e : x = y := by
      rw [UInt8.lt_iff_toNat_lt] at h1 k1
      exact UInt8.toNat.inj (by omega)
    subst e
    rw [less_total a b (by simpa using h2) (by simpa using k2)]

theorem toList_inj {a b : ByteArray} (h : a.toList = b.toList) : a = b := by
  rw [ByteArray.toList_eq, ByteArray.toList_eq] at h
  obtain ⟨⟨x⟩⟩ := a
  obtain ⟨⟨y⟩⟩ := b
  simpa using h

theorem lt_irrefl (a : ByteArray) : lt a a = false := less_irrefl _
theorem lt_trans {a b c : ByteArray} (h : lt a b = true) (k : lt b c = true) : lt a c = true := less_trans _ _ _ h k
theorem lt_total {a b : ByteArray} (h : lt a b = false) (k : lt b a = false) : a = b := toList_inj (less_total _ _ h k)
theorem lt_asymm {a b : ByteArray} (h : lt a b = true) : lt b a = false := by
  cases k : lt b a with
  | false => rfl
  | true => have := lt_trans h k; rw [lt_irrefl] at this; cases this
theorem compare_txt (a b : ByteArray) : Lib.compareBytes a.data.toList b.data.toList = txt a b := by
  have main : ∀ x y : List UInt8, Lib.compareBytes x y = if Op.bytesLess x y then -1 else if Op.bytesLess y x then 1 else 0 := by
    intro x
    induction x with
    | nil => intro y; cases y <;> rfl
    | cons x xs ih =>
      intro y
      cases y with
      | nil => rfl
      | cons y ys =>
        simp only [Lib.compareBytes, Op.bytesLess]
        by_cases h : x < y
        · simp [h]
        · by_cases k : y < x
          · have hne : ¬ x = y := by rintro rfl; exact h k
            simp [h, k, hne]
          · have e : x = y := by
              rw [UInt8.lt_iff_toNat_lt] at h k
              exact UInt8.toNat.inj (by omega)
            subst e
            simp [h, ih]
  rw [main, txt, lt, lt, ByteArray.toList_eq, ByteArray.toList_eq]

theorem txt_m {a b : ByteArray} (h : Op.bytesLess a.toList b.toList = true) : (-1 : Int) = txt a b := by simp [txt, lt, h]
theorem txt_p {a b : ByteArray} (h : Op.bytesLess a.toList b.toList = false) (k : (!a.toList == b.toList) = true) : (1 : Int) = txt a b := by
  have hn : ¬ a = b := by rintro rfl; simp at k
  cases h2 : Op.bytesLess b.toList a.toList with
  | true => simp [txt, lt, h, h2]
  | false => exact absurd (lt_total h h2) hn
theorem txt_0 {a b : ByteArray} (k : (!a.toList == b.toList) = false) : (0 : Int) = txt a b := by
  have e : a = b := toList_inj (by simpa using k)
  subst e
  simp [txt, lt_irrefl]
theorem txt_self (a : ByteArray) : txt a a = 0 := by simp [txt, lt_irrefl]
theorem txt_eq {a b : ByteArray} : txt a b = 0 ↔ a = b := by
  unfold txt
  cases h : lt a b <;> cases k : lt b a <;> simp
  · exact lt_total h k
  · rintro rfl; rw [lt_irrefl] at k; cases k
  · rintro rfl; rw [lt_irrefl] at h; cases h
  · rintro rfl; rw [lt_irrefl] at h; cases h

theorem ret_int {k : IntKind} {a b : Int} (h : a = b) : Ending.returned (.int k a) = .returned (.int k b) := by rw [h]
theorem ret_bool {a b : Bool} (h : a = b) : Ending.returned (.bool a) = .returned (.bool b) := by rw [h]

/-- a cell as data -/
structure Cl where
  row : ByteArray
  col : ByteArray
  ts : Nat
  seq : Nat
  del : Bool
  val : ByteArray
  deriving DecidableEq

def Cl.vals (c : Cl) : List Value := [.string c.row, .string c.col, .int .u64 c.ts, .int .u64 c.seq, .bool c.del, .string c.val]
abbrev Cl.agg (c : Cl) : Value := .agg #[.string c.row, .string c.col, .int .u64 c.ts, .int .u64 c.seq, .bool c.del, .string c.val]
def vals (l : List Cl) : List Value := l.flatMap Cl.vals

/-- numbers, by size: -1, 0, 1 -/
def num (a b : Nat) : Int := if a < b then -1 else if b < a then 1 else 0
/-- the first that is not 0 -/
def first (l : List Int) : Int := (l.find? (· != 0)).getD 0

theorem first_nil : first [] = 0 := rfl
theorem first_cons (z : Int) (l : List Int) : first (z :: l) = if z = 0 then first l else z := by
  unfold first
  by_cases h : z = 0 <;> simp [List.find?_cons, h]
theorem first_all {l : List Int} (h : ∀ z ∈ l, z = 0) : first l = 0 := by
  induction l with
  | nil => rfl
  | cons z l ih => rw [first_cons, if_pos (h z (by simp)), ih fun z hz => h z (by simp [hz])]
theorem first_take {l : List Int} {k : Nat} (hk : k < l.length) (h : ∀ z ∈ l.take k, z = 0) (hne : l[k] ≠ 0) : first l = l[k] := by
  induction l generalizing k with
  | nil => simp at hk
  | cons z l ih =>
    cases k with
    | zero => rw [first_cons, if_neg (by simpa using hne)]; rfl
    | succ k =>
      rw [first_cons, if_pos (h z (by simp))]
      exact ih (by simpa using hk) (fun y hy => h y (by simp [hy])) (by simpa using hne)

def Cl.cmp (a b : Cl) : Int := first [txt a.row b.row, txt a.col b.col, num b.ts a.ts, num b.seq a.seq]

theorem length_vals (l : List Cl) : (vals l).length = 6 * l.length := by
  induction l with
  | nil => rfl
  | cons c l ih => simp [vals, Cl.vals] at *; omega

end Go.Proofs.Ytaeemeoffnhgfaa
