/-
  The walks of the two functions that tell which rows are looked at.
-/
import Derived.Test.YtijicefakfpdcaaMemPlain
namespace Go.Proofs.Ytijicefakfpdcaa
open Go.RowKit
attribute [local go_sem ↓] Go.wp_at_zero Go.wp_at_succ

theorem geq_bytes (a b : ByteArray) : (!Op.bytesLess a.toList b.toList) = !lt a b := rfl

theorem leq_bytes (s row : ByteArray) : (Op.bytesLess s.toList row.toList || decide (s = row)) = !lt row s := by
  show (lt s row || decide (s = row)) = !lt row s
  cases h : lt s row with
  | true => rw [lt_asymm h]; rfl
  | false =>
    cases k : lt row s with
    | true => rw [decide_eq_false (fun e => by subst e; rw [h] at k; cases k)]; rfl
    | false => rw [decide_eq_true (lt_total h k)]; rfl
theorem below_drewQ {B : Nat} {a w : World} (h : Below B a w) (n : Nat) : Below B a (w.drewN n) := ⟨h.os, h.tape, h.output, h.size, h.block⟩
set_option maxHeartbeats 1000000 in
theorem onRow_any (g : Nat) (s row : ByteArray) (w : World) (h : w.cell? ⟨g, 0, none⟩ = some (.string row)) :
    Calls Try.prog 26 #[.string s, .pointer (some ⟨g, 0, none⟩)] w fun e w' => e = .returned (.tuple #[.bool (!lt s row), .bool (decide (s = row)), .bool (!lt row s)]) ∧ Below w.heap.size w w' := by
  have hq : (s.toList == row.toList) = decide (s = row) := by
    by_cases e : s = row
    · subst e; simp
    · rw [decide_eq_false e, beq_eq_false_iff_ne]
      exact fun k => e (toList_inj k)
  have hb := Below.refl w.heap.size w
  go_enter Try.func26, Try.ntmps26
  go_wp2
  go_quiet (fail)
  go_wp2
  go_ret3
  refine ⟨?_, below_drewQ hb nq⟩
  rw [← leq_bytes s row]
  rfl
set_option maxHeartbeats 1000000 in
theorem onSpan_any (g k : Nat) (s f t : ByteArray) (w : World) (h : w.cell? ⟨g, 0, none⟩ = some (.string t)) (h' : w.cell? ⟨k, 0, none⟩ = some (.string f)) :
    Calls Try.prog 25 #[.string s, .pointer (some ⟨g, 0, none⟩), .pointer (some ⟨k, 0, none⟩)] w fun e w' => e = .returned (.tuple #[.bool (!lt s f), .bool (spanned f t s), .bool (decide (t.toList = []) || lt s t)]) ∧ Below w.heap.size w w' := by
  unfold spanned
  go_enter Try.func25, Try.ntmps25
  go_wp2
  all_goals (go_ret3; refine ⟨?_, Below.refl _ _⟩; simp [lt, *])
end Go.Proofs.Ytijicefakfpdcaa
