/-
  The walk of the reference's May and Number.
-/
import Derived.Test.YtijicefakfpdcaaMay
import Derived.Test.YtijicefakfpdcaaBytes
namespace Go.Proofs.Ytijicefakfpdcaa
open Go.RowKit
attribute [local go_sem ↓] Go.wp_at_zero Go.wp_at_succ

theorem empty_dec (s : ByteArray) : decide (s.toList = []) = decide (s.size = 0) := by
  have := empty_size s
  rw [← this]
  cases s.toList <;> rfl
theorem refMay_eq (c : Cl) : may c = (!(decide (c.row.size < 1) || decide (40 < c.row.size) || decide (c.col.size < 1) || decide (40 < c.col.size) || decide (100 < c.val.size)) && (!c.del || decide (c.val.size = 0))) := by
  unfold may
  generalize c.row.size = x
  generalize c.col.size = y
  generalize c.val.size = z
  rw [Bool.eq_iff_iff]
  cases c.del <;> simp <;> omega

set_option maxHeartbeats 4000000 in
theorem refMay_any (c : Cl) (w : World) : Calls Try.prog 21 #[c.agg] w fun e w' => e = .returned (.bool (may c)) ∧ Below w.heap.size w w' := by
  have hb := (Below.refl w.heap.size w).alloc (Nat.le_refl _) (.cells #[.string c.row, .string c.col, .int .u64 c.ts, .int .u64 c.seq, .bool c.del, .string c.val] 31)
  have HB := Lib.hid hb
  clear hb
  have he := empty_size c.val
  rw [refMay_eq]
  unfold Cl.agg
  by_cases h1 : c.row.size < 1 ∨ 40 < c.row.size ∨ c.col.size < 1 ∨ 40 < c.col.size ∨ 100 < c.val.size
  · have hr : (decide (c.row.size < 1) || decide (40 < c.row.size) || decide (c.col.size < 1) || decide (40 < c.col.size) || decide (100 < c.val.size)) = true := by simpa [or_assoc] using h1
    rw [hr]
    clear hr he
    go_enter Try.func21, Try.ntmps21
    go_wp2
    all_goals first
      | (go_ret; exact ⟨rfl, HB.out⟩)
      | (exfalso; omega)
  · have hr : (decide (c.row.size < 1) || decide (40 < c.row.size) || decide (c.col.size < 1) || decide (40 < c.col.size) || decide (100 < c.val.size)) = false := by
      simp only [Bool.or_eq_false_iff, decide_eq_false_iff_not]
      omega
    rw [hr]
    clear hr
    have k1 : decide ((c.row.size : Int) < 1) = false := decide_eq_false (by omega)
    have k2 : decide (40 < (c.row.size : Int)) = false := decide_eq_false (by omega)
    have k3 : decide ((c.col.size : Int) < 1) = false := decide_eq_false (by omega)
    have k4 : decide (40 < (c.col.size : Int)) = false := decide_eq_false (by omega)
    have k5 : decide (100 < (c.val.size : Int)) = false := decide_eq_false (by omega)
    cases hd : c.del with
    | false =>
      clear he
      go_enter Try.func21, Try.ntmps21
      rw [hd] at HB
      go_wp2
      all_goals first
        | (go_ret; exact ⟨rfl, HB.out⟩)
        | (exfalso; omega)
    | true =>
      rw [hd] at HB
      by_cases h6 : c.val.size = 0
      · have h7 : (c.val.toList == []) = true := by rw [he, h6]; rfl
        rw [decide_eq_true h6]
        clear he
        go_enter Try.func21, Try.ntmps21
        go_wp2
        all_goals first
          | (go_ret; exact ⟨rfl, HB.out⟩)
          | (exfalso; omega)
      · have h7 : (c.val.toList == []) = false := by rw [he]; exact decide_eq_false h6
        rw [decide_eq_false h6]
        clear he
        go_enter Try.func21, Try.ntmps21
        go_wp2
        all_goals first
          | (go_ret; exact ⟨rfl, HB.out⟩)
          | (exfalso; omega)
end Go.Proofs.Ytijicefakfpdcaa
