/-
  Runs, merged group by group, pass by pass: it comes to what all of them, together, are resolved to. Plain; no conditions.
-/
import Derived.Test.YtflppcgonbjnmaaJE
import Derived.Test.YtflppcgonbjnmaaJN
namespace Go.Proofs.Ytflppcgonbjnmaa
open Go.RowKit

def sortedL (L : List (List It)) : Bool := L.all sortedB
theorem strict_of_sorted {l : List It} (h : sortedB l = true) : Strict l := by
  have h1 := (sortedB_iff l).1 h
  unfold Strict
  rw [List.pairwise_iff_getElem]
  intro i j hi hj hij
  induction j with
  | zero => omega
  | succ j ih =>
    by_cases e : i = j
    · subst e
      exact h1 i hj
    · exact cc_cmp.lt_le (ih (by omega) (by omega)) (by have := h1 j hj; omega)
theorem srt_of_strict {l : List It} (h : Strict l) : Srt It.lt l := by
  refine List.Pairwise.imp (fun {a b} hab => ?_) h
  have h1 := it_cmp_eq b a
  have h2 := cc_cmp.anti a b
  rw [if_neg (by omega)] at h1
  exact decide_eq_false (by omega)
/-- parts of m each -/
def chunksL {α : Type} (m : Nat) (l : List α) : List (List α) := match m, l with
  | 0, _ => []
  | _ + 1, [] => []
  | m + 1, x :: l => (x :: l).take (m + 1) :: chunksL (m + 1) ((x :: l).drop (m + 1))
termination_by l.length
decreasing_by simp; omega
section
variable {α : Type}
theorem chunksL_nil (m : Nat) : chunksL m ([] : List α) = [] := by cases m <;> rw [chunksL]
theorem chunksL_cons {m : Nat} (hm : 1 ≤ m) {l : List α} (hl : l ≠ []) : chunksL m l = l.take m :: chunksL m (l.drop m) := by
  match m, l with
  | m + 1, x :: l => rw [chunksL]
theorem chunksL_flat {m : Nat} (hm : 1 ≤ m) (l : List α) : (chunksL m l).flatten = l := by
  induction hl : l.length using Nat.strongRecOn generalizing l with
  | ind n ih =>
    by_cases h : l = []
    · subst h; rw [chunksL_nil]; rfl
    · have h0 : 0 < l.length := List.length_pos_iff.2 h
      rw [chunksL_cons hm h, List.flatten_cons, ih (l.drop m).length (by rw [List.length_drop]; omega) _ rfl, List.take_append_drop]
theorem chunksL_len {m : Nat} (hm : 1 ≤ m) (l : List α) : (chunksL m l).length = (l.length + m - 1) / m := by
  induction hl : l.length using Nat.strongRecOn generalizing l with
  | ind n ih =>
    by_cases h : l = []
    · subst h
      simp at hl
      subst hl
      rw [chunksL_nil, List.length_nil, Nat.zero_add, Nat.div_eq_of_lt (by omega)]
    · have h0 : 0 < l.length := List.length_pos_iff.2 h
      rw [chunksL_cons hm h, List.length_cons, ih (l.drop m).length (by rw [List.length_drop]; omega) _ rfl, List.length_drop]
      rw [← hl]
      by_cases hle : l.length ≤ m
      · rw [show l.length - m + m - 1 = m - 1 by omega, Nat.div_eq_of_lt (show m - 1 < m by omega)]
        symm
        rw [Nat.div_eq_of_lt_le] <;> omega
      · rw [show l.length + m - 1 = (l.length - m + m - 1) + m by omega, Nat.add_div_right _ (by omega)]
end
def passP (w : Nat) (L : List (List It)) : List (List It) := (chunksL w L).map fun p => resolve p.flatten
theorem pass_sorted (w : Nat) (L : List (List It)) : sortedL (passP w L) = true := by
  unfold sortedL passP
  rw [List.all_eq_true]
  intro r hr
  obtain ⟨p, _, rfl⟩ := List.mem_map.1 hr
  exact strict_sorted (resolve_good _).strict
theorem pass_resolve {w : Nat} (hw : 1 ≤ w) (L : List (List It)) : resolve (passP w L).flatten = resolve L.flatten := by
  have h := resolve_flat ((chunksL w L).map List.flatten) []
  rw [List.nil_append, List.nil_append] at h
  have e1 : ((chunksL w L).map List.flatten).flatten = L.flatten := by rw [← List.flatten_flatten, chunksL_flat hw]
  have e2 : ((chunksL w L).map List.flatten).map resolve = passP w L := by
    unfold passP
    rw [List.map_map]
    rfl
  rw [e1, e2] at h
  exact h.symm
theorem pass_len {w : Nat} (hw : 1 ≤ w) (L : List (List It)) : (passP w L).length = (L.length + w - 1) / w := by
  unfold passP
  rw [List.length_map, chunksL_len hw]
theorem ceil_lt {n w : Nat} (hw : 2 ≤ w) (hn : 2 ≤ n) : (n + w - 1) / w < n := by
  rw [Nat.div_lt_iff_lt_mul (by omega)]
  have : n * 2 ≤ n * w := Nat.mul_le_mul_left _ hw
  have h3 : w * 2 ≤ n * w := by rw [Nat.mul_comm n w]; exact Nat.mul_le_mul_left _ hn
  omega
theorem one_resolve {r : List It} (h : sortedB r = true) : resolve [r].flatten = r := by
  rw [show [r].flatten = r by simp]
  exact resolve_strict (strict_of_sorted h)
/-- how many passes n lists want -/
def passN (w n : Nat) : Nat := if h : 2 ≤ w ∧ 2 ≤ n then passN w ((n + w - 1) / w) + 1 else 0
termination_by n
decreasing_by exact ceil_lt h.1 h.2
theorem passN_le {w n : Nat} (h : n ≤ 1) : passN w n = 0 := by rw [passN, dif_neg (by omega)]
theorem passN_more {w n : Nat} (hw : 2 ≤ w) (h : 2 ≤ n) : passN w n = passN w ((n + w - 1) / w) + 1 := by rw [passN, dif_pos ⟨hw, h⟩]
theorem pass_pos {w n : Nat} (hw : 1 ≤ w) (h : 1 ≤ n) : 1 ≤ (n + w - 1) / w := by
  rw [Nat.le_div_iff_mul_le (by omega)]
  omega
/-- between two passes: what there was, what there is, how many passes there were -/
structure AllI (w : Nat) (L M : List (List It)) (k : Nat) : Prop where
  so : sortedL M = true
  re : resolve M.flatten = resolve L.flatten
  nn : passN w L.length = passN w M.length + k
  ne : L ≠ [] → M ≠ []
  le : M.length ≤ L.length
theorem AllI.start {w : Nat} {L : List (List It)} (h : sortedL L = true) : AllI w L L 0 := ⟨h, rfl, rfl, fun h => h, Nat.le_refl _⟩
theorem AllI.next {w : Nat} {L M : List (List It)} {k : Nat} (h : AllI w L M k) (hw : 2 ≤ w) (hm : 2 ≤ M.length) : AllI w L (passP w M) (k + 1) := by
  have hl := pass_len (show 1 ≤ w by omega) M
  have hlt := ceil_lt hw hm
  have hp := pass_pos (w := w) (n := M.length) (by omega) (by omega)
  refine ⟨pass_sorted w M, (pass_resolve (by omega) M).trans h.re, ?_, fun _ e => ?_, by have := h.le; omega⟩
  · rw [h.nn, passN_more hw hm, hl]
    omega
  · rw [e] at hl
    simp at hl
    omega
theorem AllI.one {w : Nat} {L M : List (List It)} {k : Nat} (h : AllI w L M k) (hm : ¬ 2 ≤ M.length) (hL : L ≠ []) : M = [resolve L.flatten] ∧ k = passN w L.length := by
  have h1 := h.ne hL
  match M, h, h1, hm with
  | [], _, h1, _ => exact absurd rfl h1
  | _ :: _ :: _, _, _, hm => exact absurd (by simp) hm
  | [r], h, _, _ =>
    have hs := h.so
    unfold sortedL at hs
    simp only [List.all_cons, List.all_nil, Bool.and_true] at hs
    have := h.re
    rw [one_resolve hs] at this
    have hn := h.nn
    rw [passN_le (by simp : [r].length ≤ 1)] at hn
    exact ⟨by rw [this], by omega⟩
end Go.Proofs.Ytflppcgonbjnmaa
