/-
  The walks of column, hides and covers. No conditions.
-/
import Derived.Test.YtoligmmjmghgnaaViewPlain
import Derived.Test.YtoligmmjmghgnaaAlikeCell
namespace Go.Proofs.Ytoligmmjmghgnaa
open Go.RowKit
attribute [local go_sem ↓] Go.wp_at_zero Go.wp_at_succ

theorem beq_name (s t : ByteArray) : (s.toList == t.toList) = decide (s = t) := by
  by_cases e : s = t
  · subst e; simp
  · rw [decide_eq_false e, beq_eq_false_iff_ne]
    exact fun k => e (toList_inj k)
set_option maxHeartbeats 1000000 in
theorem column_any (x y : Cl) (w : World) :
    Calls Try.prog 29 #[x.agg, y.agg] w fun e w' => e = .returned (.bool (column x y)) ∧ Below w.heap.size w w' := by
  have HB := Lib.hid (below_al2 w (.cells #[.string x.row, .string x.col, .int .u64 x.ts, .int .u64 x.seq, .bool x.del, .string x.val] 29) (.cells #[.string y.row, .string y.col, .int .u64 y.ts, .int .u64 y.seq, .bool y.del, .string y.val] 29))
  unfold Cl.agg column
  rw [← beq_name, ← beq_name]
  obtain ⟨p, hp⟩ : ∃ p, (x.row.toList == y.row.toList) = p := ⟨_, rfl⟩
  obtain ⟨q, hq⟩ : ∃ q, (x.col.toList == y.col.toList) = q := ⟨_, rfl⟩
  rw [hp, hq]
  cases p <;> cases q
  all_goals
    go_enter Try.func29, Try.ntmps29
    go_wp2
    go_ret
    exact ⟨rfl, by first | exact HB.out | exact below_al2 _ _ _⟩
set_option maxHeartbeats 2000000 in
theorem hides_any (x y : Cl) (w : World) :
    Calls Try.prog 27 #[x.agg, y.agg] w fun e w' => e = .returned (.bool (hides x y)) ∧ Below w.heap.size w w' := by
  have HB := Lib.hid (below_al2 w (.cells #[.string x.row, .string x.col, .int .u64 x.ts, .int .u64 x.seq, .bool x.del, .string x.val] 29) (.cells #[.string y.row, .string y.col, .int .u64 y.ts, .int .u64 y.seq, .bool y.del, .string y.val] 29))
  unfold Cl.agg
  obtain ⟨r, hr⟩ : ∃ r, hides x y = r := ⟨_, rfl⟩
  rw [hr]
  unfold hides at hr
  by_cases h1 : y.seq < x.seq
  · rw [decide_eq_true h1] at hr
    have e1 : decide (y.seq < x.seq) = true := decide_eq_true h1
    by_cases h2 : x.ts = y.ts
    · rw [decide_eq_true h2] at hr
      have hr' : true = r := hr
      subst hr'
      have e2 : (x.ts == y.ts) = true := by simpa using h2
      have e3 : ((x.ts : Int) == (y.ts : Int)) = true := by
        rw [beq_iff_eq]
        omega
      clear h2 hr h1
      go_enter Try.func27, Try.ntmps27
      go_wp2
      go_ret
      exact ⟨rfl, by first | exact HB.out | exact below_al2 _ _ _⟩
    · rw [decide_eq_false h2] at hr
      have e2 : (x.ts == y.ts) = false := by simpa using h2
      have e3 : ((x.ts : Int) == (y.ts : Int)) = false := by
        rw [beq_eq_false_iff_ne]
        omega
      have HR := Lib.hid hr
      clear hr h1
      cases hd : x.del with
      | false =>
        have hr' := HR.out
        rw [hd] at hr'
        have hr'' : false = r := hr'
        subst hr''
        go_enter Try.func27, Try.ntmps27
        go_wp2
        go_ret
        exact ⟨rfl, by first | exact HB.out | exact below_al2 _ _ _⟩
      | true =>
        have hr' := HR.out
        rw [hd] at hr'
        by_cases h3 : y.ts ≤ x.ts
        · rw [decide_eq_true h3] at hr'
          have hr'' : true = r := hr'
          subst hr''
          have e4 : decide (y.ts ≤ x.ts) = true := decide_eq_true h3
          clear hr' h2
          go_enter Try.func27, Try.ntmps27
          go_wp2
          go_ret
          exact ⟨rfl, by first | exact HB.out | exact below_al2 _ _ _⟩
        · rw [decide_eq_false h3] at hr'
          have hr'' : false = r := hr'
          subst hr''
          have e4 : decide (y.ts ≤ x.ts) = false := decide_eq_false h3
          clear hr' h2
          go_enter Try.func27, Try.ntmps27
          go_wp2
          go_ret
          exact ⟨rfl, by first | exact HB.out | exact below_al2 _ _ _⟩
  · rw [decide_eq_false h1] at hr
    have hr' : false = r := hr
    subst hr'
    have e1 : decide (y.seq < x.seq) = false := decide_eq_false h1
    clear hr h1
    go_enter Try.func27, Try.ntmps27
    go_wp2
    go_ret
    exact ⟨rfl, by first | exact HB.out | exact below_al2 _ _ _⟩
set_option maxHeartbeats 2000000 in
theorem covers_any (x y : Cl) (w : World) :
    Calls Try.prog 25 #[x.agg, y.agg] w fun e w' => e = .returned (.bool (covers x y)) ∧ Below w.heap.size w w' := by
  have HB := Lib.hid (below_al2 w (.cells #[.string x.row, .string x.col, .int .u64 x.ts, .int .u64 x.seq, .bool x.del, .string x.val] 29) (.cells #[.string y.row, .string y.col, .int .u64 y.ts, .int .u64 y.seq, .bool y.del, .string y.val] 29))
  have hm := fun W => hides_any x y W
  obtain ⟨h, hh⟩ : ∃ h, hides x y = h := ⟨_, rfl⟩
  unfold covers
  rw [hh]
  rw [hh] at hm
  unfold Cl.agg at hm ⊢
  have HM := Lib.hid hm
  clear hm hh
  have hx : (((w.alloc (.cells #[.string x.row, .string x.col, .int .u64 x.ts, .int .u64 x.seq, .bool x.del, .string x.val] 29)).alloc (.cells #[.string y.row, .string y.col, .int .u64 y.ts, .int .u64 y.seq, .bool y.del, .string y.val] 29))).cell? ⟨w.heap.size, 4, none⟩ = some (.bool x.del) := by go_simp
  have hy : (((w.alloc (.cells #[.string x.row, .string x.col, .int .u64 x.ts, .int .u64 x.seq, .bool x.del, .string x.val] 29)).alloc (.cells #[.string y.row, .string y.col, .int .u64 y.ts, .int .u64 y.seq, .bool y.del, .string y.val] 29))).cell? ⟨w.heap.size + 1, 4, none⟩ = some (.bool y.del) := by go_simp
  have HX := Lib.hid (fun W (hb : Below ((w.alloc (.cells #[.string x.row, .string x.col, .int .u64 x.ts, .int .u64 x.seq, .bool x.del, .string x.val] 29)).alloc (.cells #[.string y.row, .string y.col, .int .u64 y.ts, .int .u64 y.seq, .bool y.del, .string y.val] 29)).heap.size ((w.alloc (.cells #[.string x.row, .string x.col, .int .u64 x.ts, .int .u64 x.seq, .bool x.del, .string x.val] 29)).alloc (.cells #[.string y.row, .string y.col, .int .u64 y.ts, .int .u64 y.seq, .bool y.del, .string y.val] 29)) W) => And.intro ((hb.cell (p := ⟨w.heap.size, 4, none⟩) (by simp only [World.size_alloc]; omega)).trans hx) ((hb.cell (p := ⟨w.heap.size + 1, 4, none⟩) (by simp only [World.size_alloc]; omega)).trans hy))
  clear hx hy
  cases h <;> cases hd : x.del <;> cases hy : y.del
  all_goals
    go_enter Try.func25, Try.ntmps25
    go_wp2_with (go_at_call 27; (first | rw [hd, hy] at HM | skip); refine (HM.out _).mono ?_; rintro e w1 ⟨rfl, hb1⟩; obtain ⟨q1, q2⟩ := HX.out w1 (by first | exact hb1 | (rw [hd, hy]; exact hb1)))
    go_ret
    exact ⟨rfl, by first | exact HB.out.trans (hb1.mono HB.out.size) | exact (below_al2 _ _ _).trans (hb1.mono (below_al2 _ _ _).size)⟩
end Go.Proofs.Ytoligmmjmghgnaa
