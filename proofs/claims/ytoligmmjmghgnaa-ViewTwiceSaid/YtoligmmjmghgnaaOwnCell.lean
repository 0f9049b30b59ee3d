/-
  The walks of sort, compact and DeleteFunc at cells, again, in words of a slice of the call's own (a nil one too); and of Clone.
-/
import Derived.Test.YtoligmmjmghgnaaStableCell
import Derived.Test.YtoligmmjmghgnaaCompactCell
import Derived.Test.YtoligmmjmghgnaaConcatCell
import Derived.Test.YtoligmmjmghgnaaAppCell
import Derived.Test.YtoligmmjmghgnaaViewPlain
namespace Go.Proofs.Ytoligmmjmghgnaa
open Go.RowKit
attribute [local go_sem ↓] Go.wp_at_zero Go.wp_at_succ

/-- cut short: the same row, with fewer in it -/
theorem OwnC.short {w : World} {B c : Nat} {A : Option Addr} {l : List Cl} {n : Nat} (h : OwnC w B A n c l) (h0 : 0 < n) {w' : World} {m : List Cl} {k : Nat} {g : Nat} (hA : A = some ⟨g, 0, none⟩) (hb : B ≤ g) (hm : Arr Cl.vals 6 w' g 29 (c * 6) m) (hk : m.length = k) (hkc : k ≤ c) (hc : c ≤ maxLen) : OwnC w' B A k c m := by
  have := Arr.own Cl.vals_len (by omega) hm hb (by omega) hc
  rw [hk] at this
  rw [hA]
  exact this
theorem sortOwnC (B n c : Nat) (A : Option Addr) (l : List Cl) (w : World) (h : OwnC w B A n c l) (hn : n ≤ 1000000) :
    Calls Try.prog 32 #[.slice A n c, .func (.func 33) #[] #[]] w fun e w' =>
      e = .returned (.tuple #[]) ∧ ∃ m, SS Cl.lt l m ∧ OwnC w' B A n c m ∧ w.grownBy w' (blk A) := by
  have hl := h.len
  rcases Nat.eq_zero_or_pos n with h0 | h0
  · subst h0
    have hl0 : l = [] := List.eq_nil_of_length_eq_zero hl
    subst hl0
    refine (sortStable_none A c _ w).mono ?_
    rintro e w' ⟨rfl, rfl⟩
    exact ⟨rfl, [], SS.refl List.Pairwise.nil, h, grownBy_refl _ _⟩
  · obtain ⟨g, S, rfl, hb, hS, hnc, hc, -, ha⟩ := Own.arr Cl.vals_len h h0 (by omega)
    refine (sortStable_any cl_weak g S c n l w ha hl (by omega)).mono ?_
    rintro e w' ⟨rfl, m, hm, hma, hg⟩
    subst hS
    have hml : m.length = n := by rw [← hl]; exact hm.2.2.length_eq.symm
    exact ⟨rfl, m, hm, h.short h0 rfl hb hma hml hnc hc, hg⟩
theorem compact_none (A : Option Addr) (c : Nat) (fv : Value) (w : World) :
    Calls Try.prog 34 #[.slice A 0 c, fv] w fun e w' => e = .returned (.slice A 0 c) ∧ w = w' := by
  go_enter Try.func34, Try.ntmps34
  go_wp2
  go_ret
  exact ⟨rfl, rfl⟩
theorem alike_eqv : alike = eqv Cl.lt := by
  funext a b
  unfold alike eqv Cl.lt
  have h := cl_cmp.anti a b
  by_cases h1 : a.cmp b = 0
  · rw [decide_eq_true h1, decide_eq_false (by omega), decide_eq_false (by omega)]; rfl
  · rw [decide_eq_false h1]
    by_cases h2 : a.cmp b < 0
    · rw [decide_eq_true h2]; rfl
    · rw [decide_eq_false h2, decide_eq_true (by omega)]; rfl
theorem compactOwnC (B n c : Nat) (A : Option Addr) (l : List Cl) (w : World) (h : OwnC w B A n c l) (hn : n ≤ 1000000) :
    Calls Try.prog 34 #[.slice A n c, .func (.func 35) #[] #[]] w fun e w' =>
      ∃ k, e = .returned (.slice A k c) ∧ k ≤ n ∧ OwnC w' B A k c (compactF (eqv Cl.lt) l) ∧ w.grownBy w' (blk A) := by
  have hl := h.len
  rcases Nat.eq_zero_or_pos n with h0 | h0
  · subst h0
    have hl0 : l = [] := List.eq_nil_of_length_eq_zero hl
    subst hl0
    refine (compact_none A c _ w).mono ?_
    rintro e w' ⟨rfl, rfl⟩
    exact ⟨0, rfl, Nat.le_refl _, h, grownBy_refl _ _⟩
  · obtain ⟨g, S, rfl, hb, hS, hnc, hc, -, ha⟩ := Own.arr Cl.vals_len h h0 (by omega)
    refine (compactCl_any g S c n l w ha hl (by omega) hnc).mono ?_
    rintro e w' ⟨k, rfl, hk, hma, hg⟩
    subst hS
    rw [alike_eqv] at hk hma
    have hkn : k ≤ n := by rw [← hk, ← hl]; exact compactF_length _ l
    exact ⟨k, rfl, hkn, h.short h0 rfl hb hma hk (by omega) hc, hg⟩
theorem delete_none (f : FuncId) (caps : Array Value) (q : Cl → Bool) (A : Option Addr) (c : Nat) (w : World) (eg : ∀ args W, (callFunc f args).run Try.prog W = .ok (.enter f args) W)
    (hq : ∀ x W, w.grownBy W (blk A) → Calls Try.prog f (#[x.agg] ++ caps) W fun e w' => e = .returned (.bool (q x)) ∧ Below W.heap.size W w') :
    Calls Try.prog 20 #[.slice A 0 c, .func (.func f) #[] caps] w fun e w' => e = .returned (.slice A 0 c) ∧ Below w.heap.size w w' := by
  have HI := Lib.hid (show Calls Try.prog 36 #[.slice A 0 c, .func (.func f) #[] caps] w fun e w' => e = .returned (.int .i64 (-1)) ∧ Below w.heap.size w w' from indexCell_any f caps q w eg (fun x W hb => hq x W (grownBy_below hb _)) A c [] Rd.nil (Nat.zero_le _))
  clear hq
  go_enter Try.func20, Try.ntmps20
  go_wp2_with (go_at_call 36; refine HI.out.mono ?_; rintro e w1 ⟨rfl, hb1⟩)
  go_ret
  exact ⟨rfl, hb1⟩
theorem deleteOwnC (f : FuncId) (caps : Array Value) (q : Cl → Bool) (B n c : Nat) (A : Option Addr) (l : List Cl) (w : World) (eg : ∀ args W, (callFunc f args).run Try.prog W = .ok (.enter f args) W) (h : OwnC w B A n c l) (hn : n ≤ 1000000)
    (hq : ∀ x W, w.grownBy W (blk A) → Calls Try.prog f (#[x.agg] ++ caps) W fun e w' => e = .returned (.bool (q x)) ∧ Below W.heap.size W w') :
    Calls Try.prog 20 #[.slice A n c, .func (.func f) #[] caps] w fun e w' =>
      ∃ k, e = .returned (.slice A k c) ∧ k ≤ n ∧ OwnC w' B A k c (l.filter fun x => !q x) ∧ w.grownBy w' (blk A) := by
  have hl := h.len
  rcases Nat.eq_zero_or_pos n with h0 | h0
  · subst h0
    have hl0 : l = [] := List.eq_nil_of_length_eq_zero hl
    subst hl0
    refine (delete_none f caps q A c w eg hq).mono ?_
    rintro e w' ⟨rfl, hb⟩
    exact ⟨0, rfl, Nat.le_refl _, h.below hb, grownBy_below hb _⟩
  · obtain ⟨g, S, rfl, hb, hS, hnc, hc, -, ha⟩ := Own.arr Cl.vals_len h h0 (by omega)
    refine (deleteFunc_any f caps q g S c n l w eg hq ha hl hn hnc).mono ?_
    rintro e w' ⟨k, rfl, hk, hma, hg⟩
    subst hS
    have hkn : k ≤ n := by rw [← hk, ← hl]; exact List.length_filter_le _ _
    exact ⟨k, rfl, hkn, h.short h0 rfl hb hma hk (by omega) hc, hg⟩
end Go.Proofs.Ytoligmmjmghgnaa
