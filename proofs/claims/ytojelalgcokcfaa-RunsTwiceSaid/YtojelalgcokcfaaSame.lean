/-
  The walks of the functions that tell whether two cells, or two items, have one coordinate; and of the reference's comparison of two items.
-/
import Derived.Test.YtojelalgcokcfaaCellEq
import Derived.Test.YtojelalgcokcfaaItem
namespace Go.Proofs.Ytojelalgcokcfaa
open Go.RowKit
attribute [local go_sem ↓] Go.wp_at_zero Go.wp_at_succ

/-- one row, one column, one time -/
def Cl.same (a b : Cl) : Bool := decide (a.row = b.row ∧ a.col = b.col ∧ a.ts = b.ts)
theorem same_move (a b : Cl) : decide ({ a with seq := b.seq, del := b.del, val := b.val } = b) = a.same b := by
  unfold Cl.same
  rw [Bool.eq_iff_iff, decide_eq_true_iff, decide_eq_true_iff]
  obtain ⟨r, c, t, s, d, v⟩ := a
  obtain ⟨r', c', t', s', d', v'⟩ := b
  simp

theorem same_1 {x y : Cl} (h : x.row.toList = y.row.toList) (k : x.col.toList = y.col.toList) : ((x.ts : Int) == (y.ts : Int)) = x.same y := by
  unfold Cl.same
  rw [Bool.eq_iff_iff, beq_iff_eq, decide_eq_true_iff]
  exact ⟨fun e => ⟨toList_inj h, toList_inj k, Int.ofNat.inj e⟩, fun e => congrArg _ e.2.2⟩
theorem same_2 {x y : Cl} (k : ¬ x.col.toList = y.col.toList) : false = x.same y := by
  symm
  unfold Cl.same
  rw [decide_eq_false_iff_not]
  exact fun e => k (by rw [e.2.1])
theorem same_3 {x y : Cl} (k : ¬ x.row.toList = y.row.toList) : false = x.same y := by
  symm
  unfold Cl.same
  rw [decide_eq_false_iff_not]
  exact fun e => k (by rw [e.1])
theorem below2' (w : World) (o p : Obj) : Below w.heap.size w ((w.alloc o).alloc p) := ((Below.refl _ _).alloc (Nat.le_refl _) _).alloc (by simp) _

set_option maxHeartbeats 2000000 in
theorem cellSame_any (x y : Cl) (w : World) :
    Calls Try.prog 35 #[x.agg, y.agg] w fun e w' => e = .returned (.bool (x.same y)) ∧ Below w.heap.size w w' := by
  have hq := eql_cell { x with seq := y.seq, del := y.del, val := y.val } y
  rw [same_move] at hq
  unfold Cl.agg at hq ⊢
  dsimp only at hq
  go_enter Try.func35, Try.ntmps35
  go_wp2
  go_region
  go_wp2
  go_ret
  exact ⟨rfl, (below2' w _ _).drew⟩

set_option maxHeartbeats 1000000 in
theorem refSame_any (x y : Cl) (w : World) :
    Calls Try.prog 30 #[x.agg, y.agg] w fun e w' => e = .returned (.bool (x.same y)) ∧ Below w.heap.size w w' := by
  unfold Cl.agg
  go_enter Try.func30, Try.ntmps30
  go_wp2
  · go_ret; exact ⟨ret_bool (same_1 ‹_› ‹_›), below2' w _ _⟩
  · go_ret; exact ⟨ret_bool (same_2 ‹_›), below2' w _ _⟩
  · go_ret; exact ⟨ret_bool (same_3 ‹_›), below2' w _ _⟩

set_option maxHeartbeats 1000000 in
theorem itemSame_any (x y : It) (w : World) :
    Calls Try.prog 25 #[x.agg, y.agg] w fun e w' => e = .returned (.bool (x.c.same y.c)) ∧ Below w.heap.size w w' := by
  unfold It.agg
  go_enter Try.func25, Try.ntmps25
  go_wp2_with (go_at_call 35; refine (cellSame_any x.c y.c _).mono ?_; rintro e w1 ⟨rfl, hb1⟩)
  go_ret
  exact ⟨rfl, (below2' w _ _).trans (hb1.mono (by simp; omega))⟩

set_option maxHeartbeats 1000000 in
theorem runsCmp_any (x y : It) (w : World) :
    Calls Try.prog 19 #[x.agg, y.agg] w fun e w' => e = .returned (.int .i64 (x.cmp y)) ∧ Below w.heap.size w w' := by
  unfold It.agg
  go_enter Try.func19, Try.ntmps19
  go_wp2_with (go_at_call 24; refine (itemCompare_any x y _).mono ?_; rintro e w1 ⟨rfl, hb1⟩)
  go_ret
  exact ⟨rfl, (below2' w _ _).trans (hb1.mono (by simp; omega))⟩

theorem icmp_eq (x y : It) : x.cmp y = if x.c.plain.cmp y.c.plain = 0 then numI y.pos x.pos else x.c.plain.cmp y.c.plain := by
  unfold It.cmp
  rw [first_cons, first_cons, first_nil]
  by_cases h : x.c.plain.cmp y.c.plain = 0
  · rw [if_pos h, if_pos h]
    split
    · rename_i h; exact h.symm
    · rfl
  · rw [if_neg h, if_neg h]
theorem icmp_1 {x y : It} (h : (x.c.plain.cmp y.c.plain != 0) = true) : x.c.plain.cmp y.c.plain = x.cmp y := by
  rw [icmp_eq, if_neg (by simpa using h)]
theorem icmp_2 {x y : It} (h : (x.c.plain.cmp y.c.plain != 0) = false) (k : y.pos < x.pos) : -1 = x.cmp y := by
  rw [icmp_eq, if_pos (by simpa using h), numI, if_pos k]
theorem icmp_3 {x y : It} (h : (x.c.plain.cmp y.c.plain != 0) = false) (k : x.pos < y.pos) : 1 = x.cmp y := by
  rw [icmp_eq, if_pos (by simpa using h), numI, if_neg (by omega), if_pos k]
theorem icmp_4 {x y : It} (h : (x.c.plain.cmp y.c.plain != 0) = false) (k : x.pos ≤ y.pos) (l : y.pos ≤ x.pos) : 0 = x.cmp y := by
  rw [icmp_eq, if_pos (by simpa using h), numI, if_neg (by omega), if_neg (by omega)]
theorem below4' (w : World) (o p q r : Obj) : Below w.heap.size w ((((w.alloc o).alloc p).alloc q).alloc r) := ((below2' w o p).alloc (by simp; omega) q).alloc (by simp; omega) r
set_option maxHeartbeats 2000000 in
theorem ref08Cmp_any (x y : It) (w : World) :
    Calls Try.prog 20 #[x.agg, y.agg] w fun e w' => e = .returned (.int .i64 (x.cmp y)) ∧ Below w.heap.size w w' := by
  unfold It.agg
  go_enter Try.func20, Try.ntmps20
  go_wp2_with fail
  go_at_call 29
  refine (refCmp_any x.c.plain y.c.plain _).mono ?_
  rintro e w1 ⟨rfl, hb1⟩
  have p1 : w1.cell? ⟨w.heap.size, 6, none⟩ = some (.int .i64 x.pos) := (hb1.cell (p := ⟨w.heap.size, 6, none⟩) (by simp <;> omega)).trans (by clear hb1; go_simp)
  have p2 : w1.cell? ⟨w.heap.size + 1, 6, none⟩ = some (.int .i64 y.pos) := (hb1.cell (p := ⟨w.heap.size + 1, 6, none⟩) (by simp <;> omega)).trans (by clear hb1 p1; go_simp)
  have hB : Below w.heap.size w w1 := (below4' w _ _ _ _).trans (hb1.mono (by simp; omega))
  clear hb1
  go_wp2
  · go_ret; exact ⟨ret_int (icmp_1 ‹_›), hB⟩
  · go_ret; exact ⟨ret_int (icmp_2 ‹_› ‹_›), hB⟩
  · go_ret; exact ⟨ret_int (icmp_3 ‹_› ‹_›), hB⟩
  · go_ret; exact ⟨ret_int (icmp_4 ‹_› ‹_› ‹_›), hB⟩
end Go.Proofs.Ytojelalgcokcfaa
