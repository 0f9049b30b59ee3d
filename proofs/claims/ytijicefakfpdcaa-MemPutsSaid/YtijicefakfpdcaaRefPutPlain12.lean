/-
  Where a cell belongs among cells in order. Plain, no walk.
-/
import Derived.Test.YtijicefakfpdcaaTable12
namespace Go.Proofs.Ytijicefakfpdcaa
open Go.RowKit

theorem scan_take {c : Cl} : ∀ (l : List Cl) (k : Nat), k ≤ l.length → (∀ j (h : j < l.length), j < k → l[j].cmp c < 0) → (∀ h : k < l.length, ¬ l[k].cmp c < 0) →
    l.takeWhile (fun d => decide (d.cmp c < 0)) = l.take k ∧ l.dropWhile (fun d => decide (d.cmp c < 0)) = l.drop k
  | [], k, _, _, _ => by simp
  | y :: l, 0, _, _, h => by
    have h0 := h (by simp)
    simp only [List.getElem_cons_zero] at h0
    simp [h0]
  | y :: l, k + 1, hk, h1, h2 => by
    have h0 := h1 0 (by simp) (by omega)
    simp only [List.getElem_cons_zero] at h0
    obtain ⟨a, b⟩ := scan_take (c := c) l k (by simpa using hk) (fun j hj hjk => by have := h1 (j + 1) (by simpa using hj) (by omega); simpa using this) (fun h => by have := h2 (by simpa using h); simpa using this)
    simp [h0, a, b]
theorem scan_has {c : Cl} {l : List Cl} {k : Nat} (hk : k < l.length) (h : l[k].cmp c = 0) : has c l = true := by
  unfold has
  exact List.any_eq_true.2 ⟨l[k], List.getElem_mem hk, decide_eq_true h⟩
theorem scan_not {c : Cl} {l : List Cl} {k : Nat} (hu : Up l) (h1 : ∀ j (h : j < l.length), j < k → l[j].cmp c < 0) (h2 : ∀ h : k < l.length, ¬ l[k].cmp c < 0 ∧ l[k].cmp c ≠ 0) : has c l = false := by
  unfold has
  refine List.any_eq_false.2 fun x hx => ?_
  obtain ⟨j, hj, rfl⟩ := List.getElem_of_mem hx
  have hp := List.pairwise_iff_getElem.1 hu
  rcases Nat.lt_trichotomy j k with h | h | h
  · have := h1 j hj h
    simp only [decide_eq_true_eq]
    omega
  · subst h
    have := h2 hj
    simp only [decide_eq_true_eq]
    omega
  · have h3 := h2 (by omega)
    have h4 := hp k j (by omega) hj h
    have e1 := cmp_flip l[k] c
    have h5 := cl_cmp.lt_le (by omega : c.cmp l[k] < 0) (by omega : l[k].cmp l[j] ≤ 0)
    have e2 := cmp_flip c l[j]
    simp only [decide_eq_true_eq]
    omega
theorem scan_put {c : Cl} {l : List Cl} {k : Nat} (hm : may c = true) (hu : Up l) (hk : k ≤ l.length) (h1 : ∀ j (h : j < l.length), j < k → l[j].cmp c < 0) (h2 : ∀ h : k < l.length, ¬ l[k].cmp c < 0 ∧ l[k].cmp c ≠ 0) :
    put l c = l.take k ++ c :: l.drop k ∧ putE l c = 0 := by
  have hh := scan_not hu h1 h2
  obtain ⟨e, _⟩ := put_is (show isPut l c = true by unfold isPut; rw [hm, hh]; rfl)
  obtain ⟨a, b⟩ := scan_take l k hk h1 (fun h => (h2 h).1)
  refine ⟨?_, by unfold putE; rw [hm, hh]; rfl⟩
  rw [e]
  unfold ins
  rw [a, b]
end Go.Proofs.Ytijicefakfpdcaa
