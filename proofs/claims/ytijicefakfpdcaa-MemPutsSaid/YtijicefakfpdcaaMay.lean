/-
  The walk of cell.May.
-/
import Derived.Test.YtijicefakfpdcaaPutsPlain
namespace Go.Proofs.Ytijicefakfpdcaa
open Go.RowKit
attribute [local go_sem ↓] Go.wp_at_zero Go.wp_at_succ

def nameOk (s : ByteArray) : Bool := decide (1 ≤ s.size) && decide (s.size ≤ 40)
theorem toList_size (s : ByteArray) : s.toList.length = s.size := by rw [ByteArray.toList_eq]; rfl
theorem empty_size (s : ByteArray) : (s.toList == []) = decide (s.size = 0) := by
  have := toList_size s
  cases h : s.toList with
  | nil => rw [h] at this; rw [← this]; rfl
  | cons x l =>
    rw [h, List.length_cons] at this
    rw [decide_eq_false (by omega : ¬ s.size = 0)]
    rfl
theorem may_eq (c : Cl) : may c = (nameOk c.row && nameOk c.col && decide (c.val.size ≤ 100) && !(c.del && !decide (c.val.size = 0))) := rfl

set_option maxHeartbeats 1000000 in
theorem name_any (s : ByteArray) (w : World) : Calls Try.prog 38 #[.string s] w fun e w' => e = .returned (.bool (nameOk s)) ∧ w = w' := by
  have he := empty_size s
  unfold nameOk
  by_cases h0 : s.size = 0
  · have h1 : (s.toList == []) = true := by rw [he, h0]; rfl
    have h2 : decide (1 ≤ s.size) = false := decide_eq_false (by omega)
    rw [h2]
    clear he
    go_enter Try.func38, Try.ntmps38
    go_wp2
    go_ret
    exact ⟨rfl, rfl⟩
  · have h1 : (s.toList == []) = false := by rw [he]; exact decide_eq_false h0
    have h2 : decide (1 ≤ s.size) = true := decide_eq_true (by omega)
    rw [h2, Bool.true_and]
    clear he
    by_cases h3 : s.size ≤ 40
    · have h4 : decide ((s.size : Int) ≤ 40) = true := decide_eq_true (by omega)
      rw [decide_eq_true h3]
      go_enter Try.func38, Try.ntmps38
      go_wp2
      go_ret
      exact ⟨rfl, rfl⟩
    · have h4 : decide ((s.size : Int) ≤ 40) = false := decide_eq_false (by omega)
      rw [decide_eq_false h3]
      go_enter Try.func38, Try.ntmps38
      go_wp2
      go_ret
      exact ⟨rfl, rfl⟩

set_option maxHeartbeats 2000000 in
theorem cellMay_any (c : Cl) (w : World) : Calls Try.prog 28 #[c.agg] w fun e w' => e = .returned (.bool (may c)) ∧ Below w.heap.size w w' := by
  rw [may_eq]
  have he := empty_size c.val
  unfold Cl.agg
  cases h1 : nameOk c.row with
  | false =>
    go_enter Try.func28, Try.ntmps28
    go_wp2_with (go_at_call 38; refine (name_any _ _).mono ?_; rintro e w' ⟨rfl, rfl⟩; simp only [h1])
    go_ret
    exact ⟨rfl, (Below.refl _ _).alloc (Nat.le_refl _) _⟩
  | true =>
    cases h2 : nameOk c.col with
    | false =>
      go_enter Try.func28, Try.ntmps28
      go_wp2_with (go_at_call 38; refine (name_any _ _).mono ?_; rintro e w' ⟨rfl, rfl⟩; simp only [h1, h2])
      go_ret
      exact ⟨rfl, (Below.refl _ _).alloc (Nat.le_refl _) _⟩
    | true =>
      by_cases h3 : c.val.size ≤ 100
      · have h4 : decide ((c.val.size : Int) ≤ 100) = true := decide_eq_true (by omega)
        rw [decide_eq_true h3]
        cases h5 : c.del with
        | false =>
          go_enter Try.func28, Try.ntmps28
          go_wp2_with (go_at_call 38; refine (name_any _ _).mono ?_; rintro e w' ⟨rfl, rfl⟩; simp only [h1, h2])
          go_ret
          exact ⟨rfl, (Below.refl _ _).alloc (Nat.le_refl _) _⟩
        | true =>
          by_cases h6 : c.val.size = 0
          · have h7 : (c.val.toList == []) = true := by rw [he, h6]; rfl
            rw [decide_eq_true h6]
            clear he
            go_enter Try.func28, Try.ntmps28
            go_wp2_with (go_at_call 38; refine (name_any _ _).mono ?_; rintro e w' ⟨rfl, rfl⟩; simp only [h1, h2])
            go_ret
            exact ⟨rfl, (Below.refl _ _).alloc (Nat.le_refl _) _⟩
          · have h7 : (c.val.toList == []) = false := by rw [he]; exact decide_eq_false h6
            rw [decide_eq_false h6]
            clear he
            go_enter Try.func28, Try.ntmps28
            go_wp2_with (go_at_call 38; refine (name_any _ _).mono ?_; rintro e w' ⟨rfl, rfl⟩; simp only [h1, h2])
            go_ret
            exact ⟨rfl, (Below.refl _ _).alloc (Nat.le_refl _) _⟩
      · have h4 : decide ((c.val.size : Int) ≤ 100) = false := decide_eq_false (by omega)
        rw [decide_eq_false h3]
        go_enter Try.func28, Try.ntmps28
        go_wp2_with (go_at_call 38; refine (name_any _ _).mono ?_; rintro e w' ⟨rfl, rfl⟩; simp only [h1, h2])
        go_ret
        exact ⟨rfl, (Below.refl _ _).alloc (Nat.le_refl _) _⟩
end Go.Proofs.Ytijicefakfpdcaa
