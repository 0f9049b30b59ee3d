/-
  The walks of sort and delete, again, in words of a slice of the call's own (a nil one too).
-/
import Derived.Test.YtaeemeoffnhgfaaApart
import Derived.Test.YtaeemeoffnhgfaaStableFile
import Derived.Test.YtaeemeoffnhgfaaCloneFile
import Derived.Test.YtaeemeoffnhgfaaConcatFile
namespace Go.Proofs.Ytaeemeoffnhgfaa
open Go.RowKit

def OwnF (w : World) (B : Nat) (A : Option Addr) (n c : Nat) (l : List Fi) : Prop := Own w B 23 5 A n c (fis l)
theorem OwnF.len {w : World} {B n c : Nat} {A : Option Addr} {l : List Fi} (h : OwnF w B A n c l) : l.length = n := by
  have := h.1
  rw [fis_len] at this
  omega
theorem sortOwn (B n c : Nat) (A : Option Addr) (l : List Fi) (w : World) (h : OwnF w B A n c l) (hn : n ≤ 1000000) :
    Calls Try.prog 31 #[.slice A n c, .func (.func 32) #[] #[]] w fun e w' =>
      e = .returned (.tuple #[]) ∧ ∃ m, SS Fi.lt l m ∧ OwnF w' B A n c m ∧ w.grownBy w' (blk A) := by
  have hl := h.len
  rcases Nat.eq_zero_or_pos n with h0 | h0
  · subst h0
    have hl0 : l = [] := List.eq_nil_of_length_eq_zero hl
    subst hl0
    refine (sortStable_none A c _ w).mono ?_
    rintro e w' ⟨rfl, rfl⟩
    exact ⟨rfl, [], SS.refl List.Pairwise.nil, h, grownBy_refl _ _⟩
  · obtain ⟨g, S, rfl, hb, hS, hnc, hc, -, ha⟩ := Own.arr Fi.vals_len h h0 (by omega)
    refine (sortStable_any fi_weak g S c n l w ha hl (by omega)).mono ?_
    rintro e w' ⟨rfl, m, hm, hma, hg⟩
    subst hS
    have hml : m.length = n := by rw [← hl]; exact hm.2.2.length_eq.symm
    have := Arr.own Fi.vals_len (by omega) hma hb (by omega) hc
    rw [hml] at this
    exact ⟨rfl, m, hm, this, hg⟩
theorem deleteOwn (B n c i : Nat) (j : Int) (A : Option Addr) (l : List Fi) (w : World) (h : OwnF w B A n c l) (hn : n ≤ 1000000) (hi : i < n) (hj : j = (i : Int) + 1) :
    Calls Try.prog 35 #[.slice A n c, .int .i64 (i : Int), .int .i64 j] w fun e w' =>
      e = .returned (.slice A (n - 1) c) ∧ OwnF w' B A (n - 1) c (l.eraseIdx i) ∧ w.grownBy w' (blk A) := by
  have hl := h.len
  obtain ⟨g, S, rfl, hb, hS, hnc, hc, -, ha⟩ := Own.arr Fi.vals_len h (by omega) (by omega)
  have hj' : j = ((i + 1 : Nat) : Int) := by omega
  subst hj'
  refine (deleteFile_any g S c n i (i + 1) l w ha hl hn hnc hi rfl).mono ?_
  rintro e w' ⟨rfl, hma, hg⟩
  subst hS
  rw [← List.eraseIdx_eq_take_drop_succ] at hma
  have hml : (l.eraseIdx i).length = n - 1 := by rw [List.length_eraseIdx, if_pos (by omega), hl]
  have := Arr.own Fi.vals_len (by omega) hma hb (by omega) hc
  rw [hml] at this
  exact ⟨rfl, this, hg⟩
end Go.Proofs.Ytaeemeoffnhgfaa
