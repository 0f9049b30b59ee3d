/-
  Cells, held against each other by the language's own equality. No conditions.
-/
import Derived.Test.YtoligmmjmghgnaaCmp
namespace Go.Proofs.Ytoligmmjmghgnaa
open Go.RowKit
attribute [local go_sem ↓] Go.wp_at_zero Go.wp_at_succ

theorem vals_ne {l : List Cl} {k : Nat} (h : k < l.length) : vals l ≠ [] := fun e => by
  have := length_vals l
  rw [e] at this
  simp at this
  omega

theorem if_same {α : Type} (p q r t u v : Prop) [Decidable p] [Decidable q] [Decidable r] [Decidable t] [Decidable u] [Decidable v] (b : Bool) (x y : α) (f : Bool → α) (hx : f false = x) (hy : f true = y) (hb : b = true ↔ p ∧ q ∧ r ∧ t ∧ u ∧ v) :
    (if p then if q then if r then if t then if u then if v then x else y else y else y else y else y else y) = f (!b) := by
  subst hx hy
  cases b with
  | true =>
    obtain ⟨h1, h2, h3, h4, h5, h6⟩ := hb.1 rfl
    simp [h1, h2, h3, h4, h5, h6]
  | false =>
    have hn : ¬ (p ∧ q ∧ r ∧ t ∧ u ∧ v) := fun h => by have := hb.2 h; cases this
    by_cases h1 : p <;> by_cases h2 : q <;> by_cases h3 : r <;> by_cases h4 : t <;> by_cases h5 : u <;> by_cases h6 : v <;> simp_all

theorem neq_cell (x y : Cl) (W : World) : (binOp .neq 29 x.agg y.agg).run Try.prog W = .ok (.bool (!decide (x = y))) W := by
  go_simp
  refine if_same _ _ _ _ _ _ _ _ _ (fun b => Result.ok (Value.bool b) W) rfl rfl ?_
  rw [decide_eq_true_iff]
  obtain ⟨r, c, t, s, d, v⟩ := x
  obtain ⟨r', c', t', s', d', v'⟩ := y
  constructor
  · intro h; cases h; simp
  · rintro ⟨h1, h2, h3, h4, h5, h6⟩
    cases toList_inj h1; cases toList_inj h2; cases toList_inj h6
    have e3 : t = t' := Int.ofNat.inj h3
    have e4 : s = s' := Int.ofNat.inj h4
    have e5 : d = d' := h5
    rw [e3, e4, e5]

theorem if_same' {α : Type} (p q r t u v : Prop) [Decidable p] [Decidable q] [Decidable r] [Decidable t] [Decidable u] [Decidable v] (b : Bool) (x y : α) (f : Bool → α) (hx : f true = x) (hy : f false = y) (hb : b = true ↔ p ∧ q ∧ r ∧ t ∧ u ∧ v) :
    (if p then if q then if r then if t then if u then if v then x else y else y else y else y else y else y) = f b := by
  have := if_same p q r t u v b x y (fun c => f (!c)) (by simpa using hx) (by simpa using hy) hb
  simpa using this
theorem cl_eq_iff (x y : Cl) : x = y ↔ x.row.toList = y.row.toList ∧ x.col.toList = y.col.toList ∧ (x.ts : Int) = y.ts ∧ (x.seq : Int) = y.seq ∧ x.del = y.del ∧ x.val.toList = y.val.toList := by
  obtain ⟨r, c, t, s, d, v⟩ := x
  obtain ⟨r', c', t', s', d', v'⟩ := y
  constructor
  · intro h; cases h; simp
  · rintro ⟨h1, h2, h3, h4, h5, h6⟩
    cases toList_inj h1; cases toList_inj h2; cases toList_inj h6
    have e3 : t = t' := Int.ofNat.inj h3
    have e4 : s = s' := Int.ofNat.inj h4
    have e5 : d = d' := h5
    rw [e3, e4, e5]
theorem eql_cell (x y : Cl) (W : World) : (binOp .eql 29 x.agg y.agg).run Try.prog W = .ok (.bool (decide (x = y))) W := by
  go_simp
  refine if_same' _ _ _ _ _ _ _ _ _ (fun b => Result.ok (Value.bool b) W) rfl rfl ?_
  rw [decide_eq_true_iff]
  exact cl_eq_iff x y
end Go.Proofs.Ytoligmmjmghgnaa
