/-
  Cells in order, and one more among them; trees of cells. Plain, no walk.
-/
import Derived.Test.YtijicefakfpdcaaCmpOrd
namespace Go.Proofs.Ytijicefakfpdcaa
open Go.RowKit

/-- each is below all behind it -/
def Up (l : List Cl) : Prop := l.Pairwise fun a b => a.cmp b < 0
/-- one more, at its place -/
def ins (c : Cl) (l : List Cl) : List Cl := l.takeWhile (fun d => decide (d.cmp c < 0)) ++ c :: l.dropWhile (fun d => decide (d.cmp c < 0))
/-- one that is alike is there -/
def has (c : Cl) (l : List Cl) : Bool := l.any fun d => decide (d.cmp c = 0)
/-- what is there behind one more -/
def insH (c : Cl) (l : List Cl) : List Cl := if has c l then l else ins c l

theorem tw_all {c : Cl} {l r : List Cl} (h : ∀ d ∈ l, d.cmp c < 0) : (l ++ r).takeWhile (fun d => decide (d.cmp c < 0)) = l ++ r.takeWhile (fun d => decide (d.cmp c < 0)) ∧ (l ++ r).dropWhile (fun d => decide (d.cmp c < 0)) = r.dropWhile (fun d => decide (d.cmp c < 0)) := by
  induction l with
  | nil => exact ⟨rfl, rfl⟩
  | cons x l ih =>
    have hx := h x (by simp)
    obtain ⟨a, b⟩ := ih fun d hd => h d (by simp [hd])
    simp [hx, a, b]
theorem tw_stop {c : Cl} {r : List Cl} (h : ∀ d ∈ r, ¬ d.cmp c < 0) : r.takeWhile (fun d => decide (d.cmp c < 0)) = [] ∧ r.dropWhile (fun d => decide (d.cmp c < 0)) = r := by
  cases r with
  | nil => exact ⟨rfl, rfl⟩
  | cons x r => have := h x (by simp); simp [this]
theorem tw_in {c : Cl} {l r : List Cl} (h : ∀ d ∈ r, ¬ d.cmp c < 0) : (l ++ r).takeWhile (fun d => decide (d.cmp c < 0)) = l.takeWhile (fun d => decide (d.cmp c < 0)) ∧ (l ++ r).dropWhile (fun d => decide (d.cmp c < 0)) = l.dropWhile (fun d => decide (d.cmp c < 0)) ++ r := by
  induction l with
  | nil => obtain ⟨a, b⟩ := tw_stop h; exact ⟨a, b⟩
  | cons x l ih =>
    obtain ⟨a, b⟩ := ih
    by_cases hx : x.cmp c < 0
    · simp [hx, a, b]
    · simp [hx]
theorem ins_low {c d : Cl} {l r : List Cl} (hu : Up (l ++ d :: r)) (h : c.cmp d < 0) : ins c (l ++ d :: r) = ins c l ++ d :: r := by
  have hr : ∀ x ∈ d :: r, ¬ x.cmp c < 0 := fun x hx => by
    have e := cmp_flip c d
    rcases List.mem_cons.1 hx with rfl | hx
    · omega
    · have h2 : d.cmp x < 0 := List.rel_of_pairwise_cons (List.pairwise_append.1 hu).2.1 hx
      have h3 := cl_cmp.lt_le h (by omega : d.cmp x ≤ 0)
      have h4 := cmp_flip c x
      omega
  obtain ⟨a, b⟩ := tw_in (l := l) hr
  unfold ins
  rw [a, b]
  simp
theorem ins_high {c d : Cl} {l r : List Cl} (hu : Up (l ++ d :: r)) (h : d.cmp c < 0) : ins c (l ++ d :: r) = l ++ d :: ins c r := by
  have hl : ∀ x ∈ l ++ [d], x.cmp c < 0 := fun x hx => by
    rcases List.mem_append.1 hx with hx | hx
    · have h2 : x.cmp d < 0 := (List.pairwise_append.1 hu).2.2 x hx d (by simp)
      exact cl_cmp.lt_le h2 (by omega)
    · simp at hx; subst hx; exact h
  obtain ⟨a, b⟩ := tw_all (r := r) hl
  unfold ins
  rw [show l ++ d :: r = (l ++ [d]) ++ r by simp, a, b]
  simp
theorem has_low {c d : Cl} {l r : List Cl} (hu : Up (l ++ d :: r)) (h : c.cmp d < 0) : has c (l ++ d :: r) = has c l := by
  have hr : ∀ x ∈ d :: r, ¬ x.cmp c = 0 := fun x hx => by
    have e := cmp_flip c d
    rcases List.mem_cons.1 hx with rfl | hx
    · omega
    · have h2 : d.cmp x < 0 := List.rel_of_pairwise_cons (List.pairwise_append.1 hu).2.1 hx
      have h3 := cl_cmp.lt_le h (by omega : d.cmp x ≤ 0)
      have h4 := cmp_flip c x
      omega
  have e : (d :: r).any (fun d => decide (d.cmp c = 0)) = false := List.any_eq_false.2 fun x hx => by simp [hr x hx]
  unfold has
  rw [List.any_append, e, Bool.or_false]
theorem has_high {c d : Cl} {l r : List Cl} (hu : Up (l ++ d :: r)) (h : d.cmp c < 0) : has c (l ++ d :: r) = has c r := by
  have hl : ∀ x ∈ l ++ [d], ¬ x.cmp c = 0 := fun x hx => by
    rcases List.mem_append.1 hx with hx | hx
    · have h2 : x.cmp d < 0 := (List.pairwise_append.1 hu).2.2 x hx d (by simp)
      have := cl_cmp.lt_le h2 (by omega : d.cmp c ≤ 0)
      omega
    · simp at hx; subst hx; omega
  have e : (l ++ [d]).any (fun d => decide (d.cmp c = 0)) = false := List.any_eq_false.2 fun x hx => by simp [hl x hx]
  unfold has
  rw [show l ++ d :: r = (l ++ [d]) ++ r by simp, List.any_append, e, Bool.false_or]
theorem insH_low {c d : Cl} {l r : List Cl} (hu : Up (l ++ d :: r)) (h : c.cmp d < 0) : insH c (l ++ d :: r) = insH c l ++ d :: r := by
  unfold insH
  rw [has_low hu h, ins_low hu h]
  split <;> rfl
theorem insH_high {c d : Cl} {l r : List Cl} (hu : Up (l ++ d :: r)) (h : d.cmp c < 0) : insH c (l ++ d :: r) = l ++ d :: insH c r := by
  unfold insH
  rw [has_high hu h, ins_high hu h]
  split <;> rfl
theorem has_mid {c d : Cl} {l r : List Cl} (h : c.cmp d = 0) : has c (l ++ d :: r) = true := by
  have e := cmp_flip c d
  unfold has
  rw [List.any_append, List.any_cons, decide_eq_true (by omega : d.cmp c = 0)]
  simp
theorem insH_mid {c d : Cl} {l r : List Cl} (h : c.cmp d = 0) : insH c (l ++ d :: r) = l ++ d :: r := by unfold insH; rw [has_mid h]; rfl
theorem up_ins {c : Cl} {l : List Cl} (hu : Up l) (hn : has c l = false) : Up (ins c l) := by
  induction l with
  | nil => simp [ins, Up]
  | cons d l ih =>
    have hu' := (List.pairwise_cons.1 hu)
    have e := cmp_flip c d
    by_cases h : d.cmp c < 0
    · have hh := has_high (l := []) hu h
      rw [List.nil_append] at hh
      have hi := ins_high (l := []) hu h
      rw [List.nil_append, List.nil_append] at hi
      rw [hi]
      refine List.pairwise_cons.2 ⟨fun x hx => ?_, ih hu'.2 (hh ▸ hn)⟩
      unfold ins at hx
      rw [List.mem_append, List.mem_cons] at hx
      rcases hx with hx | rfl | hx
      · exact hu'.1 x ((List.takeWhile_sublist _).mem hx)
      · exact h
      · exact hu'.1 x ((List.dropWhile_sublist _).mem hx)
    · have hne : d.cmp c ≠ 0 := fun h0 => by
        have := has_mid (c := c) (d := d) (l := []) (r := l) (by omega)
        rw [List.nil_append, hn] at this
        cases this
      have h2 : c.cmp d < 0 := by omega
      have hi := ins_low (l := []) hu h2
      rw [List.nil_append] at hi
      rw [hi]
      show Up (c :: d :: l)
      refine List.pairwise_cons.2 ⟨fun x hx => ?_, hu⟩
      rcases List.mem_cons.1 hx with rfl | hx
      · exact h2
      · have := hu'.1 x hx
        exact cl_cmp.lt_le h2 (by omega)
theorem up_insH {c : Cl} {l : List Cl} (hu : Up l) : Up (insH c l) := by
  unfold insH
  split
  · exact hu
  · next h => exact up_ins hu (by simpa using h)
theorem perm_ins (c : Cl) (l : List Cl) : (ins c l).Perm (c :: l) := by
  unfold ins
  have := (List.perm_middle (a := c) (l₁ := l.takeWhile fun d => decide (d.cmp c < 0)) (l₂ := l.dropWhile fun d => decide (d.cmp c < 0)))
  rwa [List.takeWhile_append_dropWhile] at this
theorem length_ins (c : Cl) (l : List Cl) : (ins c l).length = l.length + 1 := (perm_ins c l).length_eq
theorem length_insH (c : Cl) (l : List Cl) : (insH c l).length = if has c l then l.length else l.length + 1 := by
  unfold insH
  split
  · rfl
  · exact length_ins c l

/-- a tree: each node lies in a block of its own, and has a level -/
inductive Tr where
  | leaf
  | node (b : Nat) (lv : Int) (l : Tr) (c : Cl) (r : Tr)
namespace Tr
def ptr : Tr → Option Addr
  | leaf => none
  | node b .. => some ⟨b, 0, none⟩
def cells : Tr → List Cl
  | leaf => []
  | node _ _ l c r => l.cells ++ c :: r.cells
def blocks : Tr → List Nat
  | leaf => []
  | node b _ l _ r => b :: (l.blocks ++ r.blocks)
end Tr
end Go.Proofs.Ytijicefakfpdcaa
