/-
  The walks of the small questions about files: may it be, does it meet, is it less.
-/
import Derived.Test.YtaeemeoffnhgfaaFileOrd
namespace Go.Proofs.Ytaeemeoffnhgfaa
open Go.RowKit
attribute [local go_sem ↓] Go.wp_at_zero Go.wp_at_succ

theorem leq_bytes (s row : ByteArray) : (Op.bytesLess s.toList row.toList || decide (s = row)) = !lt row s := by
  show (lt s row || decide (s = row)) = !lt row s
  cases h : lt s row with
  | true => rw [lt_asymm h]; rfl
  | false =>
    cases k : lt row s with
    | true => rw [decide_eq_false (fun e => by subst e; rw [h] at k; cases k)]; rfl
    | false => rw [decide_eq_true (lt_total h k)]; rfl
theorem toList_size (s : ByteArray) : s.toList.length = s.size := by rw [ByteArray.toList_eq]; rfl
theorem empty_size (s : ByteArray) : (s.toList == []) = decide (s.size = 0) := by
  have := toList_size s
  cases h : s.toList with
  | nil => rw [h] at this; rw [← this]; rfl
  | cons x l =>
    rw [h, List.length_cons] at this
    rw [decide_eq_false (by omega : ¬ s.size = 0)]
    rfl
def nm (s : ByteArray) (n : Nat) : Bool := decide (1 ≤ s.size) && decide (s.size ≤ n)
theorem leq_list (s row : ByteArray) : (Op.bytesLess s.toList row.toList || s.toList == row.toList) = !lt row s := by
  rw [← leq_bytes]
  congr 1
  by_cases e : s = row
  · subst e; simp
  · rw [decide_eq_false e, beq_eq_false_iff_ne]
    exact fun k => e (toList_inj k)
def meets (f : Fi) (lo hi : ByteArray) : Bool := !lt hi f.low && !lt f.high lo
set_option maxHeartbeats 1000000 in
theorem meets_any (f : Fi) (lo hi : ByteArray) (w : World) :
    Calls Try.prog 44 #[f.agg, .string lo, .string hi] w fun e w' => e = .returned (.bool (meets f lo hi)) ∧ Below w.heap.size w w' := by
  unfold Fi.agg meets
  have HB := (Below.refl w.heap.size w).alloc (Nat.le_refl _) (.cells #[.int .i64 f.level, .string f.name, .string f.low, .string f.high, .int .i64 f.many] 23)
  rw [← leq_list f.low hi, ← leq_list lo f.high]
  go_enter Try.func44, Try.ntmps44
  go_wp2
  all_goals go_ret
  all_goals refine ⟨?_, by first | exact HB | (simp_all; done)⟩
  all_goals first
    | rfl
    | (refine ret_bool ?_; simp_all; done)
    | (refine ret_bool ?_; simp_all; intros; omega)
set_option maxHeartbeats 1000000 in
theorem named_any (s : ByteArray) (n : Nat) (hn : n ≤ 1000) (w : World) : Calls Try.prog 27 #[.string s, .int .i64 n] w fun e w' => e = .returned (.bool (nm s n)) ∧ w = w' := by
  have he := empty_size s
  unfold nm
  by_cases h0 : s.size = 0
  · have h1 : (s.toList == []) = true := by rw [he, h0]; rfl
    have h2 : decide (1 ≤ s.size) = false := decide_eq_false (by omega)
    rw [h2]
    clear he
    go_enter Try.func27, Try.ntmps27
    go_wp2
    go_ret
    exact ⟨rfl, rfl⟩
  · have h1 : (s.toList == []) = false := by rw [he]; exact decide_eq_false h0
    have h2 : decide (1 ≤ s.size) = true := decide_eq_true (by omega)
    rw [h2, Bool.true_and]
    clear he
    have h4 : decide ((s.size : Int) ≤ (n : Int)) = decide (s.size ≤ n) := by simp
    go_enter Try.func27, Try.ntmps27
    go_wp2
    go_ret
    exact ⟨ret_bool (by simp), rfl⟩
set_option maxHeartbeats 1000000 in
theorem refName_any (s : ByteArray) (n : Nat) (hn : n ≤ 1000) (w : World) : Calls Try.prog 51 #[.string s, .int .i64 n] w fun e w' => e = .returned (.bool (nm s n)) ∧ w = w' := by
  unfold nm
  go_enter Try.func51, Try.ntmps51
  go_wp2
  all_goals go_ret
  all_goals refine ⟨ret_bool ?_, rfl⟩
  all_goals (rw [Bool.eq_iff_iff]; simp; try omega)
def may (f : Fi) : Bool := decide (0 ≤ f.level) && decide (f.level < 3) && nm f.name 59 && nm f.low 40 && nm f.high 40 && !lt f.high f.low && decide (1 ≤ f.many) && decide (f.many ≤ 2000)
theorem named_lit (s : ByteArray) (z : Int) (hz : 0 ≤ z ∧ z ≤ 1000) (w : World) : Calls Try.prog 27 #[.string s, .int .i64 z] w fun e w' => e = .returned (.bool (nm s z.toNat)) ∧ w = w' := by
  obtain ⟨n, rfl⟩ := Int.eq_ofNat_of_zero_le hz.1
  exact named_any s n (by omega) w
theorem refName_lit (s : ByteArray) (z : Int) (hz : 0 ≤ z ∧ z ≤ 1000) (w : World) : Calls Try.prog 51 #[.string s, .int .i64 z] w fun e w' => e = .returned (.bool (nm s z.toNat)) ∧ w = w' := by
  obtain ⟨n, rfl⟩ := Int.eq_ofNat_of_zero_le hz.1
  exact refName_any s n (by omega) w
set_option maxHeartbeats 2000000 in
theorem may_any (f : Fi) (w : World) : Calls Try.prog 10 #[f.agg] w fun e w' => e = .returned (.bool (may f)) ∧ Below w.heap.size w w' := by
  unfold Fi.agg may
  have HB := (Below.refl w.heap.size w).alloc (Nat.le_refl _) (.cells #[.int .i64 f.level, .string f.name, .string f.low, .string f.high, .int .i64 f.many] 23)
  rw [← leq_list f.low f.high]
  go_enter Try.func10, Try.ntmps10
  go_wp2_with (go_at_call 27; refine (named_lit _ _ (by decide) _).mono ?_; rintro e w' ⟨rfl, rfl⟩)
  all_goals go_ret
  all_goals refine ⟨?_, by first | exact HB | (simp_all; done)⟩
  all_goals first
    | rfl
    | (refine ret_bool ?_; simp_all; done)
    | (refine ret_bool ?_; simp_all; intros; omega)
theorem may_ref (f : Fi) : may f = (decide (0 ≤ f.level) && decide (f.level ≤ 2) && nm f.name 59 && nm f.low 40 && nm f.high 40 && !lt f.high f.low && decide (1 ≤ f.many) && decide (f.many ≤ 2000)) := by
  unfold may
  congr 6
  congr 1
  simp only [decide_eq_decide]
  omega
set_option maxHeartbeats 2000000 in
theorem refMay_any (f : Fi) (w : World) : Calls Try.prog 38 #[f.agg] w fun e w' => e = .returned (.bool (may f)) ∧ Below w.heap.size w w' := by
  rw [may_ref]
  unfold Fi.agg
  have HB := (Below.refl w.heap.size w).alloc (Nat.le_refl _) (.cells #[.int .i64 f.level, .string f.name, .string f.low, .string f.high, .int .i64 f.many] 76)
  rw [← leq_list f.low f.high]
  go_enter Try.func38, Try.ntmps38
  go_wp2_with (go_at_call 51; refine (refName_lit _ _ (by decide) _).mono ?_; rintro e w' ⟨rfl, rfl⟩)
  all_goals go_ret
  all_goals refine ⟨?_, by first | exact HB | (simp_all; done)⟩
  all_goals first
    | rfl
    | (refine ret_bool ?_; simp_all; done)
    | (refine ret_bool ?_; simp_all; intros; omega)
set_option maxHeartbeats 1000000 in
theorem wrong_any (f : Fi) (w : World) : Calls Try.prog 29 #[f.agg] w fun e w' => e = .returned (.bool (!may f)) ∧ Below w.heap.size w w' := by
  have hm := fun W => may_any f W
  unfold Fi.agg at hm ⊢
  have hb := (Below.refl w.heap.size w).alloc (Nat.le_refl _) (.cells #[.int .i64 f.level, .string f.name, .string f.low, .string f.high, .int .i64 f.many] 23)
  have HB0 := Lib.hid hb
  have HM := Lib.hid hm
  clear hb hm
  go_enter Try.func29, Try.ntmps29
  go_wp2_with (go_at_call 10; refine (HM.out _).mono ?_; rintro e w1 ⟨rfl, hb1⟩)
  go_ret
  exact ⟨rfl, HB0.out.trans (hb1.mono HB0.out.size)⟩
def common (a b : Fi) : Bool := !lt b.high a.low && !lt a.high b.low
def lessF (a b : Fi) : Bool := if a.level = b.level then (if a.low = b.low then lt a.name b.name else lt a.low b.low) else decide (a.level < b.level)
set_option maxHeartbeats 1000000 in
theorem common_any (f h : Fi) (w : World) :
    Calls Try.prog 41 #[f.agg, h.agg] w fun e w' => e = .returned (.bool (common f h)) ∧ Below w.heap.size w w' := by
  unfold Fi.agg common
  have HB := ((Below.refl w.heap.size w).alloc (Nat.le_refl _) (.cells #[.int .i64 f.level, .string f.name, .string f.low, .string f.high, .int .i64 f.many] 76)).alloc (by rw [World.size_alloc]; omega) (.cells #[.int .i64 h.level, .string h.name, .string h.low, .string h.high, .int .i64 h.many] 76)
  rw [← leq_list f.low h.high, ← leq_list h.low f.high]
  go_enter Try.func41, Try.ntmps41
  go_wp2
  all_goals go_ret
  all_goals refine ⟨?_, by first | exact HB | (simp_all; done)⟩
  all_goals first
    | rfl
    | (refine ret_bool ?_; simp_all; done)
    | (refine ret_bool ?_; simp_all; intros; omega)
set_option maxHeartbeats 1000000 in
theorem less_any (f h : Fi) (w : World) :
    Calls Try.prog 64 #[f.agg, h.agg] w fun e w' => e = .returned (.bool (lessF f h)) ∧ Below w.heap.size w w' := by
  unfold Fi.agg lessF
  have HB := ((Below.refl w.heap.size w).alloc (Nat.le_refl _) (.cells #[.int .i64 f.level, .string f.name, .string f.low, .string f.high, .int .i64 f.many] 76)).alloc (by rw [World.size_alloc]; omega) (.cells #[.int .i64 h.level, .string h.name, .string h.low, .string h.high, .int .i64 h.many] 76)
  have e1 : (f.low = h.low) ↔ (f.low.toList = h.low.toList) := ⟨fun e => by rw [e], toList_inj⟩
  have e2 : ∀ a b : ByteArray, lt a b = Op.bytesLess a.toList b.toList := fun _ _ => rfl
  simp only [e1, e2]
  go_enter Try.func64, Try.ntmps64
  go_wp2
  all_goals go_ret
  all_goals refine ⟨?_, by first | exact HB | (simp_all; done)⟩
  all_goals first
    | rfl
    | (refine ret_bool ?_; simp_all; done)
    | (refine ret_bool ?_; simp_all; intros; omega)
set_option maxHeartbeats 1000000 in
theorem isNamed_any (f : Fi) (g : Nat) (s : ByteArray) (w : World) (hg : g < w.heap.size) (hs : w.cell? ⟨g, 0, none⟩ = some (.string s)) :
    Calls Try.prog 34 #[f.agg, .pointer (some ⟨g, 0, none⟩)] w fun e w' => e = .returned (.bool (decide (f.name = s))) ∧ Below w.heap.size w w' := by
  have hq : (f.name.toList == s.toList) = decide (f.name = s) := by
    by_cases e : f.name = s
    · subst e; simp
    · rw [decide_eq_false e, beq_eq_false_iff_ne]
      exact fun k => e (toList_inj k)
  unfold Fi.agg
  have hs' := (World.cell?_alloc_lt w (.cells #[.int .i64 f.level, .string f.name, .string f.low, .string f.high, .int .i64 f.many] 23) ⟨g, 0, none⟩ hg).trans hs
  have HB := (Below.refl w.heap.size w).alloc (Nat.le_refl _) (.cells #[.int .i64 f.level, .string f.name, .string f.low, .string f.high, .int .i64 f.many] 23)
  go_enter Try.func34, Try.ntmps34
  go_wp2
  go_ret
  exact ⟨rfl, HB⟩
set_option maxHeartbeats 1000000 in
theorem onFind_any (f : Fi) (g : Nat) (s : ByteArray) (w : World) (hg : g < w.heap.size) (hs : w.cell? ⟨g, 0, none⟩ = some (.string s)) :
    Calls Try.prog 43 #[f.agg, .pointer (some ⟨g, 0, none⟩)] w fun e w' => e = .returned (.bool (meets f s s)) ∧ Below w.heap.size w w' := by
  have hm := fun W => meets_any f s s W
  unfold Fi.agg at hm ⊢
  have hs' := (World.cell?_alloc_lt w (.cells #[.int .i64 f.level, .string f.name, .string f.low, .string f.high, .int .i64 f.many] 23) ⟨g, 0, none⟩ hg).trans hs
  have hb := (Below.refl w.heap.size w).alloc (Nat.le_refl _) (.cells #[.int .i64 f.level, .string f.name, .string f.low, .string f.high, .int .i64 f.many] 23)
  have HB0 := Lib.hid hb
  have HM := Lib.hid hm
  clear hb hm
  go_enter Try.func43, Try.ntmps43
  go_wp2_with (go_at_call 44; refine (HM.out _).mono ?_; rintro e w1 ⟨rfl, hb1⟩)
  go_ret
  exact ⟨rfl, HB0.out.trans (hb1.mono HB0.out.size)⟩
set_option maxHeartbeats 1000000 in
theorem onOver_any (f : Fi) (gz gs gt : Nat) (z : Int) (s t : ByteArray) (w : World) (gg : gz < w.heap.size ∧ gs < w.heap.size ∧ gt < w.heap.size) (hz : w.cell? ⟨gz, 0, none⟩ = some (.int .i64 z)) (hs : w.cell? ⟨gs, 0, none⟩ = some (.string s)) (ht : w.cell? ⟨gt, 0, none⟩ = some (.string t)) :
    Calls Try.prog 45 #[f.agg, .pointer (some ⟨gz, 0, none⟩), .pointer (some ⟨gs, 0, none⟩), .pointer (some ⟨gt, 0, none⟩)] w fun e w' => e = .returned (.bool (decide (f.level = z) && meets f s t)) ∧ Below w.heap.size w w' := by
  have hm := fun W => meets_any f s t W
  unfold Fi.agg at hm ⊢
  have hz' := (World.cell?_alloc_lt w (.cells #[.int .i64 f.level, .string f.name, .string f.low, .string f.high, .int .i64 f.many] 23) ⟨gz, 0, none⟩ gg.1).trans hz
  have hs' := (World.cell?_alloc_lt w (.cells #[.int .i64 f.level, .string f.name, .string f.low, .string f.high, .int .i64 f.many] 23) ⟨gs, 0, none⟩ gg.2.1).trans hs
  have ht' := (World.cell?_alloc_lt w (.cells #[.int .i64 f.level, .string f.name, .string f.low, .string f.high, .int .i64 f.many] 23) ⟨gt, 0, none⟩ gg.2.2).trans ht
  have hb := (Below.refl w.heap.size w).alloc (Nat.le_refl _) (.cells #[.int .i64 f.level, .string f.name, .string f.low, .string f.high, .int .i64 f.many] 23)
  have HB0 := Lib.hid hb
  have HM := Lib.hid hm
  clear hb hm
  by_cases h : f.level = z
  · subst h
    rw [decide_eq_true rfl]
    have q : (f.level == f.level) = true := beq_iff_eq.2 rfl
    go_enter Try.func45, Try.ntmps45
    go_wp2_with (go_at_call 44; refine (HM.out _).mono ?_; rintro e w1 ⟨rfl, hb1⟩)
    go_ret
    exact ⟨by first | rfl | (refine ret_bool ?_; simp), HB0.out.trans (hb1.mono HB0.out.size)⟩
  · rw [decide_eq_false h]
    have q : (f.level == z) = false := beq_eq_false_iff_ne.2 h
    go_enter Try.func45, Try.ntmps45
    go_wp2
    go_ret
    exact ⟨rfl, HB0.out⟩
end Go.Proofs.Ytaeemeoffnhgfaa
