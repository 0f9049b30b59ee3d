/-
  The walks of the comparisons of two cells.
-/
import Derived.Test.YtoligmmjmghgnaaCell
namespace Go.Proofs.Ytoligmmjmghgnaa
open Go.RowKit
attribute [local go_sem ↓] Go.wp_at_zero Go.wp_at_succ

theorem below2 (w : World) (o p : Obj) : Below w.heap.size w ((w.alloc o).alloc p) := ((Below.refl _ _).alloc (Nat.le_refl _) _).alloc (by simp) _

/-- cmp.Or of four numbers that lie in one new block -/
theorem or4_any (b : Nat) (x y z u : Int) (w : World) (h : w.cell? ⟨b, 0, none⟩ = some (.int .i64 x) ∧ w.cell? ⟨b, 1, none⟩ = some (.int .i64 y) ∧ w.cell? ⟨b, 2, none⟩ = some (.int .i64 z) ∧ w.cell? ⟨b, 3, none⟩ = some (.int .i64 u)) :
    Calls Try.prog 39 #[.slice (some ⟨b, 0, none⟩) 4 4] w fun e w' => e = .returned (.int .i64 (first [x, y, z, u])) ∧ w = w' :=
  or_any _ 4 [x, y, z, u] w (b + 1) (fun _ => ⟨b, 0, rfl, by omega, fun j hj => by
    obtain ⟨h0, h1, h2, h3⟩ := h
    match j, hj with
    | 0, _ => exact h0
    | 1, _ => exact h1
    | 2, _ => exact h2
    | 3, _ => exact h3⟩) (by simp [maxLen])

theorem first4 (x y z u : Int) : first [x, y, z, u] = if x = 0 then if y = 0 then if z = 0 then u else z else y else x := by
  simp only [first_cons, first_nil]
  by_cases hu : u = 0 <;> simp [hu]

theorem refcmp_1 {x y : Cl} (h : (txt x.row y.row != 0) = true) : txt x.row y.row = x.cmp y := by
  have h : txt x.row y.row ≠ 0 := by simpa using h
  simp [Cl.cmp, first4, h]
theorem refcmp_2 {x y : Cl} (h : (txt x.row y.row != 0) = false) (k : (txt x.col y.col != 0) = true) : txt x.col y.col = x.cmp y := by
  have h : txt x.row y.row = 0 := by simpa using h
  have k : txt x.col y.col ≠ 0 := by simpa using k
  simp [Cl.cmp, first4, h, k]
theorem refcmp_3 {x y : Cl} (h : (txt x.row y.row != 0) = false) (k : (txt x.col y.col != 0) = false) (l : y.ts < x.ts) : -1 = x.cmp y := by
  have h : txt x.row y.row = 0 := by simpa using h
  have k : txt x.col y.col = 0 := by simpa using k
  simp [Cl.cmp, first4, h, k, num, l]
theorem refcmp_4 {x y : Cl} (h : (txt x.row y.row != 0) = false) (k : (txt x.col y.col != 0) = false) (l : ¬ y.ts < x.ts) (m : x.ts < y.ts) : 1 = x.cmp y := by
  have h : txt x.row y.row = 0 := by simpa using h
  have k : txt x.col y.col = 0 := by simpa using k
  simp [Cl.cmp, first4, h, k, num, l, m]
theorem refcmp_5 {x y : Cl} (h : (txt x.row y.row != 0) = false) (k : (txt x.col y.col != 0) = false) (l : ¬ y.ts < x.ts) (m : ¬ x.ts < y.ts) (n : y.seq < x.seq) : -1 = x.cmp y := by
  have h : txt x.row y.row = 0 := by simpa using h
  have k : txt x.col y.col = 0 := by simpa using k
  simp [Cl.cmp, first4, h, k, num, l, m, n]
theorem refcmp_6 {x y : Cl} (h : (txt x.row y.row != 0) = false) (k : (txt x.col y.col != 0) = false) (l : ¬ y.ts < x.ts) (m : ¬ x.ts < y.ts) (n : ¬ y.seq < x.seq) (o : x.seq < y.seq) : 1 = x.cmp y := by
  have h : txt x.row y.row = 0 := by simpa using h
  have k : txt x.col y.col = 0 := by simpa using k
  simp [Cl.cmp, first4, h, k, num, l, m, n, o]
theorem refcmp_7 {x y : Cl} (h : (txt x.row y.row != 0) = false) (k : (txt x.col y.col != 0) = false) (l : ¬ y.ts < x.ts) (m : ¬ x.ts < y.ts) (n : ¬ y.seq < x.seq) (o : ¬ x.seq < y.seq) : 0 = x.cmp y := by
  have h : txt x.row y.row = 0 := by simpa using h
  have k : txt x.col y.col = 0 := by simpa using k
  simp [Cl.cmp, first4, h, k, num, l, m, n, o]
theorem below3 (w : World) (o p q : Obj) : Below w.heap.size w (((w.alloc o).alloc p).alloc q).drew := ((below2 w o p).alloc (by simp; omega) q).drew

set_option maxHeartbeats 1000000 in
theorem refCmp_any (x y : Cl) (w : World) :
    Calls Try.prog 10 #[x.agg, y.agg] w fun e w' => e = .returned (.int .i64 (x.cmp y)) ∧ Below w.heap.size w w' := by
  unfold Cl.agg
  go_enter Try.func10, Try.ntmps10
  go_wp2_with (go_at_call 19; refine (text_any _ _ _).mono ?_; rintro e w' ⟨rfl, rfl⟩)
  · go_ret; exact ⟨ret_int (refcmp_1 ‹_›), below2 _ _ _⟩
  · go_ret; exact ⟨ret_int (refcmp_2 ‹_› ‹_›), below2 _ _ _⟩
  · go_ret; exact ⟨ret_int (refcmp_3 ‹_› ‹_› ‹_›), below2 _ _ _⟩
  · go_ret; exact ⟨ret_int (refcmp_4 ‹_› ‹_› ‹_› ‹_›), below2 _ _ _⟩
  · go_ret; exact ⟨ret_int (refcmp_5 ‹_› ‹_› ‹_› ‹_› ‹_›), below2 _ _ _⟩
  · go_ret; exact ⟨ret_int (refcmp_6 ‹_› ‹_› ‹_› ‹_› ‹_› ‹_›), below2 _ _ _⟩
  · go_ret; exact ⟨ret_int (refcmp_7 ‹_› ‹_› ‹_› ‹_› ‹_› ‹_›), below2 _ _ _⟩

set_option maxHeartbeats 1000000 in
theorem cmp_any (x y : Cl) (w : World) :
    Calls Try.prog 33 #[x.agg, y.agg] w fun e w' => e = .returned (.int .i64 (x.cmp y)) ∧ Below w.heap.size w w' := by
  unfold Cl.agg
  go_enter Try.func33, Try.ntmps33
  go_wp2_with fail
  go_region_held3 (fun w' => w'.cell? ⟨w.heap.size, 0, none⟩ = some (.string x.row) ∧ w'.cell? ⟨w.heap.size, 1, none⟩ = some (.string x.col) ∧ w'.cell? ⟨w.heap.size, 2, none⟩ = some (.int .u64 x.ts) ∧ w'.cell? ⟨w.heap.size, 3, none⟩ = some (.int .u64 x.seq) ∧
     w'.cell? ⟨w.heap.size + 1, 0, none⟩ = some (.string y.row) ∧ w'.cell? ⟨w.heap.size + 1, 1, none⟩ = some (.string y.col) ∧ w'.cell? ⟨w.heap.size + 1, 2, none⟩ = some (.int .u64 y.ts) ∧ w'.cell? ⟨w.heap.size + 1, 3, none⟩ = some (.int .u64 y.seq)) (go_keep)
    (first | (go_at_call 40; refine (compare_any _ _ _).mono ?_; rintro e w' ⟨rfl, rfl⟩) | (go_at_call 41; refine (compare64_any _ _ _).mono ?_; rintro e w' ⟨rfl, rfl⟩) | (go_at_call 39; refine (or4_any _ (txt x.row y.row) (txt x.col y.col) (num y.ts x.ts) (num y.seq x.seq) _ ?_).mono ?_; (simp [World.cell?_alloc_at]); rintro e w' ⟨rfl, rfl⟩))
  go_wp2
  go_ret
  exact ⟨rfl, below3 _ _ _ _⟩
end Go.Proofs.Ytoligmmjmghgnaa
